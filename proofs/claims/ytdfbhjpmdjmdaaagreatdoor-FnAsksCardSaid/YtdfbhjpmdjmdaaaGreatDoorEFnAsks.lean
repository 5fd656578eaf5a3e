/- FnAsks: what the law of this name says is so, for every input. Of no condition. -/
import Derived.Test.YtdfbhjpmdjmdaaaGreatDoorLW
import Derived.Test.YtdfbhjpmdjmdaaaGreatDoorFFnAsks
import Derived.WalkKit
import Derived.ProofKit
import Derived.OpenShut
import Derived.ShutString
import Derived.ChangeOld
import Derived.Below
import Derived.Handed
import Derived.WalkSmall
import Derived.LaidLaws
import Derived.Lib.LaidTab
import Derived.Lib.LaidU8
import Derived.Carry
import Derived.OpenShut
import Derived.SevenTiedAt
import Derived.Test.YtdfbhjpmdjmdaaaGreatDoorCards
import Derived.Test.YtdfbhjpmdjmdaaaGreatDoorTie
set_option linter.unusedVariables false
set_option linter.unusedSimpArgs false
namespace Go.Proofs.YtdfbhjpmdjmdaaaGreatDoor
open Go.TV
open Go.ChangeShapes Go.WideShapes Go.ChangeAt Go.RowKit
theorem own:ownKnob Tryz.prog.godebug=none:=by kernel_rfl
theorem Lzp:laidOutB Tryz.prog=true:=by kernel_rfl
theorem Pzv {P:Program} {W:World} {l:List (String×DataW Unit)} {name:String} {k:IntKind} {zs:List Int} {g:Nat} {t e:TypeId} {n:Nat}
 (hg:P.globalNamed name=some g) (hty:(P.globals[g]?).map (·.type)=some t) (ht:P.underlying t=some (.array n e)) (he:P.underlying e=some (.int k)) (hce:P.cellsOf e=1) (hct:P.cellsOf t=n)
 (h:laidMet P l W) (hm:(name,Lib.tabData k zs)∈l):Lib.TabIs P W name k zs:=by
 obtain ⟨g',t',cs,fuel,p,hg',ht',hvar,hd⟩:=Lib.laidMet.reads h hm
 obtain rfl:=Option.some.inj (hg.symm.trans hg')
 obtain rfl:=Option.some.inj (hty.symm.trans ht')
 unfold Lib.TabIs
 rw[hvar,←Lib.cells_of_tab ht he hce hct hd]
theorem zzd {H:Type} {enc:TypeId×Value→H} {P:Program} {W W':World} (hl:laidOutB P=true) (hb:Below W.heap.size W W'): ∀ {ns:List String} {gs:List (DataW H)} {q:List MemPlace},(∀n∈ns,∀g t,P.globalNamed n=some g→(P.globals[g]?).map (·.type)=some t→P.readableRec t=true∧t<P.types.size)→
 DataW.TrodVars enc P W (fun _=>true) ns gs q→ ∃q',DataW.TrodVars enc P W' (fun b=>decide (b<W.heap.size)) ns gs q'
 | [],[],q,_,h=>⟨q,h⟩
 | [],_::_,_,_,h=>h.elim
 |_::_,[],_,_,h=>h.elim
 |n::ns,d::ds,q,hr,⟨g,t,cs,fuel,p,q1,h1,h2,h3,h4,h5,_⟩=>by
  obtain ⟨q2,h6⟩:=zzd hl hb (fun m hm=>hr m (List.mem_cons_of_mem _ hm)) h5
  obtain ⟨r1,r2⟩:=hr n (List.mem_cons_self ..) g t h1 h2
  have hg:g<W.heap.size:=by
   simp only[World.var?,h1,Option.bind_some] at h3
   rcases Nat.lt_or_ge g W.heap.size with hlt|hge
   ·exact hlt
   ·rw[Array.getElem?_eq_none hge] at h3;cases h3
  obtain ⟨fuel',h7⟩:=Below.trod (v:= .agg cs) hl r1 r2 ⟨fuel,h4⟩ hb (DataW.trod_lt fuel _ _ _ h4)
  exact ⟨_,g,t,cs,fuel',p,q2,h1,h2,var?_below hb h1 hg h3,h7,h6,rfl⟩
abbrev laid:List (String×DataW Unit):=[("loop.example/g00321/impl.roundConstants",Rows.laid_loop_example_g00321_impl_roundConstants),("loop.example/g00321/impl.turns",Rows.laid_loop_example_g00321_impl_turns)]
noncomputable def Lzb (os:Os):World:=
 {World.holding Tryz.prog os ⟨#[], #[],[]⟩ with heap:=(((World.holding Tryz.prog os ⟨#[], #[],[]⟩).heap.modify ((Tryz.prog.globalNamed "loop.example/g00321/impl.roundConstants").getD 0) fun| .cells _ t f=> .cells #[.int .u64 1, .int .u64 32898, .int .u64 9223372036854808714, .int .u64 9223372039002292224, .int .u64 32907, .int .u64 2147483649, .int .u64 9223372039002292353, .int .u64 9223372036854808585, .int .u64 138, .int .u64 136, .int .u64 2147516425, .int .u64 2147483658, .int .u64 2147516555, .int .u64 9223372036854775947, .int .u64 9223372036854808713, .int .u64 9223372036854808579, .int .u64 9223372036854808578, .int .u64 9223372036854775936, .int .u64 32778, .int .u64 9223372039002259466, .int .u64 9223372039002292353, .int .u64 9223372036854808704, .int .u64 2147483649, .int .u64 9223372039002292232] t f|o=>o).modify ((Tryz.prog.globalNamed "loop.example/g00321/impl.turns").getD 0) fun| .cells _ t f=> .cells #[.int .i64 0, .int .i64 1, .int .i64 62, .int .i64 28, .int .i64 27, .int .i64 36, .int .i64 44, .int .i64 6, .int .i64 55, .int .i64 20, .int .i64 3, .int .i64 10, .int .i64 43, .int .i64 25, .int .i64 39, .int .i64 41, .int .i64 45, .int .i64 15, .int .i64 21, .int .i64 8, .int .i64 18, .int .i64 2, .int .i64 61, .int .i64 56, .int .i64 14] t f|o=>o)}
set_option maxRecDepth 100000 in
theorem lifted (os:Os) (started:os.Started) (H:Type) (enc:TypeId×Value→H):
 ReturnsInHanded {} Tryz.checked os 4 .any (fun w args=>(Rows.fnAsksSpec.pre enc Tryz.prog Tryz.f4 [] false w args∧laidMet Tryz.prog laid w)∧sizedMet enc Tryz.prog Tryz.f4 (OpenSpec.ofChange Rows.fnAsksSpec) false w args) (Rows.fnAsksSpec.post enc Tryz.prog Tryz.f4 false true false false):=by
 refine returnsInHanded_of_change_and (C:=Tryz.checked) (X:=fun w _=>laidMet Tryz.prog laid w) (fun _ _ _ hh h=>h.of_heap hh) own started (by kernel_rfl) Tryz.func4
  (ChangeSpec.witness_at (enc:=enc) (C:=Tryz.checked) (os:=os) (X:=fun w _=>laidMet Tryz.prog laid w) false (Lzb os) #[.slice none 0 0] 8 rfl (by kernel_rfl) (by kernel_rfl) (by kernel_rfl) (by kernel_rfl) (by kernel_rfl)
   (laidMet_of_run' 8 (by kernel_rfl) (by kernel_rfl))) ?_
 intro W base args ds gs before hval0 hW hcnd _ hL _
 have hval: ∀ (j:Nat) t v,Tryz.f4.params[j]?=some t→args[j]?=some v→Value.okWide Tryz.prog W .any base t v:=hval0
 have hW':=hW
 obtain ⟨p,q,hA0,hV,rfl,hfz,hnd⟩:=hW
 have hA:DataW.TrodAll enc Tryz.prog W 0 (fun _=>true) true Tryz.f4.params.toList args.toList ds p:=hA0
 rw[Tryz.params4] at hA hval
 obtain ⟨v0,vs0,d0d,ds0,p0d,q0,hargs0,rfl,rfl,h0,r0d⟩:=trodAll_cons hA
 obtain ⟨rfl,rfl,rfl⟩:=trodAll_nil r0d
 obtain rfl:args= #[v0]:=by cases args;simp_all
 obtain ⟨e1,e2,rfl⟩: ∃e1 e2,gs=[e1,e2]:=by
  match gs,hV with
  | [a,b],_=>exact ⟨a,b,rfl⟩
  | [],h=>exact h.elim
  | [_],⟨_,_,_,_,_,_,_,_,_,_,h,_⟩=>exact h.elim
  |_::_::_::_,⟨_,_,_,_,_,_,_,_,_,_,⟨_,_,_,_,_,_,_,_,_,_,h,_⟩,_⟩=>exact h.elim
 have kk0:=h0
 have lt0: ∀x∈p0d,x.block<W.heap.size:=by obtain ⟨m,hm⟩:=kk0;exact DataW.trod_lt m _ _ _ hm
 obtain ⟨x0,g0d,a0d⟩:=QzR (η:=fun _=>none) (DzU tts GzI _ _ rfl).1 (by rfl) (hval 0 _ v0 rfl rfl) h0
 obtain ⟨cs0,rep0,hv0⟩:=a0d [3,0]
 clear hA0 hval0
 have tb0:Lib.TabIs Tryz.prog W "loop.example/g00321/impl.turns" .i64 az5:=Pzv (g:=0) (t:=185) (n:=25) (by kernel_rfl) (by kernel_rfl) Tryz.underlying185 (by kernel_rfl) (by kernel_rfl) (by kernel_rfl) hL (List.mem_cons_of_mem _ (List.mem_cons_self ..))
 have tb1:Lib.TabIs Tryz.prog W "loop.example/g00321/impl.roundConstants" .u64 azU:=Pzv (g:=1) (t:=131) (n:=24) (by kernel_rfl) (by kernel_rfl) Tryz.underlying131 (by kernel_rfl) (by kernel_rfl) (by kernel_rfl) hL (List.mem_cons_self ..)
 have hgl:vzF gls gvs W (fun _=>none) (fun _=>none):=fun i t x o hi=>by
  unfold gls at hi
  cases h0:Nat.beq i 0<;>rw[h0] at hi
  rotate_left
  ·simp only[cond_true,Option.some.injEq] at hi;cases hi;obtain rfl:=Nat.eq_of_beq_eq_true h0;exact PzF tb0 (by kernel_rfl) rfl
  simp only[cond_false] at hi
  cases h1:Nat.beq i 1<;>rw[h1] at hi
  rotate_left
  ·simp only[cond_true,Option.some.injEq] at hi;cases hi;obtain rfl:=Nat.eq_of_beq_eq_true h1;exact PzF tb1 (by kernel_rfl) rfl
  simp only[cond_false] at hi
  cases hi
 refine (Lzr RzD (vals:=[v0]) (x:=(x0,())) (η:=fun _=>none) hgl ⟨⟨cs0,rep0,hv0⟩,trivial⟩ (RzB x0 g0d)).mono fun e W' ⟨he,bel⟩=>?_
 subst he
 obtain ⟨qv,hV'⟩:=zzd (ns:=["loop.example/g00321/impl.turns", "loop.example/g00321/impl.roundConstants"]) Lzp bel (fun n hn g t h1 h2=>by
  simp only[List.mem_cons,List.mem_nil_iff,or_false] at hn
  rcases hn with rfl|rfl
  ·obtain rfl:=Option.some.inj ((show Tryz.prog.globalNamed "loop.example/g00321/impl.turns" =some 0 by kernel_rfl).symm.trans h1);obtain rfl:=Option.some.inj ((show (Tryz.prog.globals[0]?).map (·.type)=some 185 by kernel_rfl).symm.trans h2);exact ⟨by kernel_rfl,of_decide_eq_true (by kernel_rfl)⟩
  ·obtain rfl:=Option.some.inj ((show Tryz.prog.globalNamed "loop.example/g00321/impl.roundConstants" =some 1 by kernel_rfl).symm.trans h1);obtain rfl:=Option.some.inj ((show (Tryz.prog.globals[1]?).map (·.type)=some 131 by kernel_rfl).symm.trans h2);exact ⟨by kernel_rfl,of_decide_eq_true (by kernel_rfl)⟩
  ) hV
 exact ⟨_,rfl,_,_,_,[],_,qv,hW',trodAll_mk1 (shut_bool (DzU tts GzI 4 .bool rfl).1.2 _),(trodAll_cons_mk (Below.trod Lzp (by kernel_rfl) (of_decide_eq_true (by kernel_rfl)) kk0 bel lt0) trodAll_mk0),hV',bel.frame _,fun h=>by cases h⟩
set_option maxHeartbeats 4000000 in
theorem over:Rows.fnAsksRow.holds Tryz.pinned (OpenSpec.ofChange Rows.fnAsksSpec):=
 OpenClaim.holds_of_wide 4 Tryz.f4 rfl rfl rfl rfl rfl rfl rfl ⟨rfl,rfl,rfl,rfl,rfl⟩ rfl rfl rfl rfl rfl (by as_aux_lemma=>kernel_rfl) Tryz.func4 closed
  (of_decide_eq_true (by as_aux_lemma=>kernel_rfl)) (by unfold Func.isWrapper;first| (rw[if_pos (by decide+kernel)];kernel_rfl)| (rw[if_neg (by decide+kernel)];exact ⟨rfl,rfl⟩))
  (fun os started H enc _=>lifted os started H enc)
set_option maxHeartbeats 4000000 in
theorem held:Rows.FnAsksCardSaid:=
 Claim7.holds_tied_plain_at .later [] [.data, .data] true (true, "f3f670f343767d1eb0f9cfa7c91f99f138b2949c4dee4fbb6afae4818f6229ce") false
  over (fun _ h=>by cases h) (by as_aux_lemma=>kernel_rfl) (fun _ h=>by cases h) fnAsks_row_tie rfl ⟨rfl,rfl⟩ (by as_aux_lemma=>kernel_rfl) rfl
  (fun f fn hf hfn=>by
   obtain rfl:f=4:=Option.some.inj ((show Tryz.prog.funcNamed "loop.example/g00321/laws.FnAsks" =some 4 by as_aux_lemma=>kernel_rfl).symm.trans hf)|>.symm
   obtain rfl:fn=Tryz.f4:=(Option.some.inj (Tryz.func4.symm.trans hfn)).symm
   refine ⟨by kernel_rfl,fun j t ht=>?_⟩
   have hall:(Tryz.f4.params.all fun t=>!Tryz.prog.wantsStandIn t)=true:=by kernel_rfl
   have:=Array.all_eq_true'.1 hall t (Array.mem_of_getElem? ht)
   exact (show Tryz.prog.wantsStandIn t=false by simpa using this))
  (by as_aux_lemma=>kernel_rfl)
#print axioms held
end Go.Proofs.YtdfbhjpmdjmdaaaGreatDoor
