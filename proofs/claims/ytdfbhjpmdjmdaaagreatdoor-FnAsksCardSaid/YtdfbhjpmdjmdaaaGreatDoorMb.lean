/- What a Go function computes, told as a function of plain data, and that it is so. Of no condition. Operands; what is read and what is taken. What is taken; what an operation yields. Operations on numbers, bools and texts. -/
import Derived.Test.YtdfbhjpmdjmdaaaGreatDoorMa
import Derived.Laws.BytesString
import Derived.Laws.Strings
set_option linter.unusedVariables false
set_option linter.unusedSimpArgs false
namespace Go.TV
theorem yz9: ∀ (T:Ty) (x:T.den),getAt T T 0 x=some x
 | .prod a b,x=>by simp [getAt]
 | .item,x=>by simp [getAt]
 | .int k,x=>by simp [getAt]
 | .bool,x=>by simp [getAt]
 | .str,x=>by simp [getAt]
 | .unit,x=>by simp [getAt]
 | .sl k,x=>by simp [getAt]
 | .arr n k,x=>by simp [getAt]
theorem yzf (T:Ty) (m:Mk):azM T T 0 m=m:=by
 cases T<;>simp [azM]
theorem Qz9 (T:Ty):bzd T T 0=[]:=by
 cases T<;>simp [bzd]
section
variable {gl:Nat→Option VV} {gv:Nat→Value} {n:Nat} {s:St} {g:G} {a:Act} {w:World}
theorem nzj {u:Nat} {T:Ty} {m:Mk} {x:T.den} (h:s.tm u= .v T m x):s.get ⟨false,u,0,T⟩=some (x,m):=by
 have:=Dzm (s:=s) (q:=⟨false,u,0,T⟩) h (yz9 T x)
 rw[yzf] at this
 exact this
theorem jz3 (h:Rel gl gv n s g a w) {u:Nat} {T:Ty} {m:Mk} {x:T.den} (hu:s.tm u= .v T m x):g.cells ⟨false,u,0,T⟩=g.tc u:=by
 have:=h.tm u
 rw[hu] at this
 have:=Rep.length _ _ _ _ _ this.1
 simp only[G.cells,G.rc,cond_false,List.drop_zero]
 exact List.take_of_length_le (by omega)
def Qz5 (g:G) (w:World) (W:VV) (v:Value):Prop:= ∀T m x,W= .v T m x→m≠ .no∧ ∃pa cs,Rep w g.ω g.η T pa m x cs∧v=mkV T cs
theorem kn_v {W:VV} {T:Ty} {m:Mk} {x:T.den} (h:W.kn= .v T m x):W= .v T m x∧m≠ .no:=by
 cases W with
 |v t m' x'=>
  cases m' with
  |no=>cases h
  |_=>simp only[VV.kn] at h;cases h;exact ⟨rfl,by simp⟩
 |_=>cases h
theorem Rel.res (h:Rel gl gv n s g a w) {pa:Path} {cs:List Value} {W:VV} {v:Value} (hW:RV s g w pa cs W v):Qz5 g w (s.res W) v:=by
 intro T m x e
 rcases hW.alias with ⟨t,m',x',e'⟩| ⟨vs,e'⟩|ha
 ·subst e'
  obtain ⟨e1,e2⟩:=kn_v (show VV.kn (.v t m' x')=_ from e)
  cases e1
  exact ⟨e2,pa,cs,hW.1,hW.2⟩
 ·subst e';cases e
 ·match W,ha with
  | .ref p,⟨h1,y,m',h2,h3,h4⟩=>
    simp only[St.res,h2] at e
    obtain ⟨e1,e2⟩:=kn_v e
    cases e1
    obtain ⟨_,_,_,_,_,_,_,h5⟩:=h.get h2
    exact ⟨e2,_,_,h5,h1⟩
  | .sref ⟨bx,n',q, .sl U⟩ i o t,⟨xs,m',r,N,c,cells,el,fr,h1,h2,h3,h4,h5,h6,h7,h8⟩=>
    simp only[St.res,h1] at e
    split at e
    ·rename_i y hy
     obtain ⟨e1,e2⟩:=kn_v e
     cases e1
     obtain ⟨_,_,_,_,_,_,_,h9⟩:=h.get h1
     obtain ⟨_,_,cells',el',fr',h10,h11,_,h12,h13⟩:=Rep.own_block h9 h2 h5
     rw[h6] at h10
     simp only[Option.some.injEq,Obj.cells.injEq] at h10
     obtain ⟨rfl,rfl,rfl⟩:=h10
     have hl:i.toNat<(xs:List U.den).length:=by simp only[lenT] at h4;omega
     have hrd:rd U.zero xs i=(xs:List U.den)[i.toNat]:=by simp [rd,List.getD_eq_getElem?_getD,List.getElem?_eq_getElem hl]
     have h14:=h13 i.toNat _ (List.getElem?_eq_getElem hl)
     rw[←hrd] at h14
     have hfit:=azT _ _ _ _ hy
     have h15:=Rep.getAt U o _ _ _ _ _ hy h14
     refine ⟨e2,_,_,h15,?_⟩
     rw[h7,List.drop_take,List.take_take,List.drop_drop,Nat.min_eq_left (by omega)]
    ·cases e
  | .junk,_=>cases e
  | .undef,_=>cases e
  | .nilp,_=>cases e
  | .box _ _,_=>cases e
  | .ep _ _ _,_=>cases e
  | .cp _ _ _,_=>cases e
theorem Qz5.as {W:VV} {v:Value} (h:Qz5 g w W v) {T:Ty} {y:T.den} {m:Mk} (e:W.as T=some (y,m)):m≠ .no∧ ∃pa cs,Rep w g.ω g.η T pa m y cs∧v=mkV T cs:=by
 cases W with
 |v u m' x=>
  simp only[VV.as] at e
  split at e
  ·rename_i y' hy
   obtain ⟨e1,e2⟩:=azk hy
   subst e1;subst e2
   cases e
   exact h _ _ _ rfl
  ·cases e
 |_=>cases e
theorem Rel.peek (h:Rel gl gv n s g a w) {pa:Path} {cs:List Value} {W:VV} {v:Value} (hW:RV s g w pa cs W v) {T:Ty} {y:T.den} {m:Mk} (e:s.peek T W=some (y,m)):
 m.all=true∧ ∃pa' cs',Rep w g.ω g.η T pa' m y cs'∧v=mkV T cs':=by
 unfold St.peek at e
 split at e
 ·rename_i y' m' hy
  cases ha:m'.all<;>rw[ha] at e
  ·cases e
  ·cases e
   exact ⟨ha,((h.res hW).as hy).2⟩
 ·cases e
theorem Mk.le_sh {m:Mk} (h:m.all=true):Mk.le .sh m=true:=by
 cases m<;>first|exact h|rfl|cases h
theorem Rep.shared {w:World} {ω:azw} {η:Pins} {t:Ty} {pa:Path} {m:Mk} {x:t.den} {cs:List Value} (h:Rep w ω η t pa m x cs) (ha:m.all=true):Rep w (fun _=>none) η t [] .sh x cs:=
 Rep.sh_mono (fun b _ _=>⟨rfl,rfl⟩) t _ _ _ _ (Rep.weaken t ω pa m .sh x cs (Mk.le_sh ha) h)
theorem Act.eval_tmp' (u:Nat):a.eval (.tmp u)=a.tmps.getD u Go.undef:=rfl
theorem Jzx {R:Type} (E:Env R) {t:Nat} {v:Value} (pa:Path): ∃cs,RV s g w pa cs (zz3 E t v) v:=by
 unfold zz3
 split
 ·exact ⟨[_],rfl,rfl⟩
 ·exact ⟨[_],rfl,rfl⟩
 ·exact ⟨[_],rfl,rfl⟩
 ·exact ⟨[],rfl⟩
 ·split
  ·exact ⟨[.slice none 0 0],⟨none,0,rfl,fun h=>absurd rfl h, .inl ⟨rfl,rfl,rfl⟩⟩,rfl⟩
  ·exact ⟨[],trivial⟩
 ·exact ⟨[],trivial⟩
theorem Rel.opd {R:Type} {E:Env R} (h:Rel E.gl gv n s g a w) (hgv: ∀i,a.eval (.global i)=gv i) (t:Nat) (x:Operand) (pa:Path):
 (∃u,x= .tmp u∧TV.opd E t s x=s.tm u∧RV s g w (azC false u) (g.tc u) (TV.opd E t s x) (a.eval x))∨(¬(∃u,x= .tmp u)∧ ∃cs,RV s g w pa cs (TV.opd E t s x) (a.eval x)):=by
 cases x with
 |tmp u=>exact .inl ⟨u,rfl,rfl,h.tm u⟩
 |const v=>exact .inr ⟨(by rintro ⟨_,h⟩;cases h),Jzx E pa⟩
 |global i=>
  refine .inr ⟨(by rintro ⟨_,h⟩;cases h),[],?_⟩
  simp only[TV.opd]
  cases hg:E.gl i with
  |none=>exact RV.of_AV (W:= .junk) trivial
  |some W=>
   cases W with
   |cp t x o=>exact RV.of_AV (by rw[hgv];exact (h.gl i t x o hg).av)
   |_=>exact RV.of_AV (W:= .junk) trivial
 |func f=>exact .inr ⟨(by rintro ⟨_,h⟩;cases h),[],RV.of_AV (W:= .junk) trivial⟩
theorem Rel.opd' {R:Type} {E:Env R} (h:Rel E.gl gv n s g a w) (hgv: ∀i,a.eval (.global i)=gv i) (t:Nat) (x:Operand): ∃pa cs,RV s g w pa cs (TV.opd E t s x) (a.eval x):=by
 rcases h.opd hgv t x [] with ⟨u,_,_,h⟩| ⟨_,cs,h⟩
 ·exact ⟨_,_,h⟩
 ·exact ⟨_,_,h⟩
end
end Go.TV
namespace Go.TV
section
variable {gv:Nat→Value} {n:Nat} {s s':St} {g:G} {a:Act} {w:World} {R:Type} {E:Env R}
def OpF (s:St) (g:G) (a:Act) (w:World) (k:Nat) (x:Operand) (W:VV):Prop:=
 (∃u,x= .tmp u∧W=s.tm u)∨((∀u,x≠ .tmp u)∧ ∃cs,RV s g w [3,k] cs W (a.eval x))
theorem Rel.opF (h:Rel E.gl gv n s g a w) (hgv: ∀i,a.eval (.global i)=gv i) (k t:Nat) (x:Operand):OpF s g a w k x (TV.opd E t s x):=by
 rcases h.opd hgv t x [3,k] with ⟨u,h1,h2,_⟩| ⟨h1,h2⟩
 ·exact .inl ⟨u,h1,h2⟩
 ·exact .inr ⟨fun u e=>h1 ⟨u,e⟩,h2⟩
theorem Rel.opFT (h:Rel E.gl gv n s g a w) (hgv: ∀i,a.eval (.global i)=gv i) (k:Nat) (T:Ty) (t:Nat) (x:Operand):OpF s g a w k x (opdT E T t s x):=by
 unfold opdT
 split
 ·split
  ·exact .inr ⟨(fun u e=>by cases e),[.slice none 0 0],⟨none,0,rfl,fun h=>absurd rfl h, .inl ⟨rfl,rfl,rfl⟩⟩,rfl⟩
  ·exact .inr ⟨(fun u e=>by cases e),[],RV.of_AV (W:= .junk) trivial⟩
 ·exact h.opF hgv k t x
theorem OpF.rv (h:Rel E.gl gv n s g a w) {k:Nat} {x:Operand} {W:VV} (hx:OpF s g a w k x W): ∃pa cs,RV s g w pa cs W (a.eval x):=by
 rcases hx with ⟨u,rfl,rfl⟩| ⟨_,cs,h⟩
 ·exact ⟨_,_,h.tm u⟩
 ·exact ⟨_,_,h⟩
structure Took (E:Env R) (gv:Nat→Value) (n:Nat) (s s':St) (g g':G) (a:Act) (w:World) (k:Nat) (T:Ty) (m:Mk) (y:T.den) (v:Value):Prop where
 rel:Rel E.gl gv n s' g' a w
 φ:g'.φ=g.φ
 η:g'.η=g.η
 fl:Fl w w g.ω g'.ω k
 rep: ∃cs,Rep w g'.ω g'.η T [3,k] m y cs∧v=mkV T cs
 tc: ∀j t m x,s.tm j= .v t m x→g'.tc j=g.tc j
 bc:g'.bc=g.bc
theorem Rel.tookOut (h:Rel E.gl gv n s g a w) {p:Pl} {y:p.t.den} {m:Mk} (hg:s.get p=some (y,m)) (k:Nat): ∃g',Took E gv n s (s.out p) g g' a w k p.t m y (mkV p.t (g.cells p)):=by
 obtain ⟨ω',h1,h2,h3⟩:=h.out hg k
 exact ⟨_,h1,rfl,rfl,h3,⟨_,h2,rfl⟩,fun _ _ _ _ _=>rfl,rfl⟩
theorem Rel.tookFrz (h:Rel E.gl gv n s g a w) {p:Pl} {y:p.t.den} {m:Mk} (hg:s.get p=some (y,m)) (hs:m≠ .sh) (ha:m.all=true) (k:Nat): ∃g',Took E gv n s (s.frz p y) g g' a w k p.t .sh y (mkV p.t (g.cells p)):=by
 obtain ⟨ω',tc',h1,h2,h3,h4⟩:=h.frz hg hs ha
 exact ⟨_,h1,rfl,rfl,h3 k,⟨_,Rep.sh_mono (azJ.refl _ _) _ _ _ _ _ h2,rfl⟩,h4,rfl⟩
theorem Rel.grab (h:Rel E.gl gv n s g a w) {k:Nat} {x:Operand} {W W':VV} (hx:OpF s g a w k x W) (e:grab E s x W=some (W',s')):
 ∃T m y g',W'= .v T m y∧Took E gv n s s' g g' a w k T m y (a.eval x):=by
 have hsame: ∀ {T:Ty} {m:Mk} {y:T.den} {cs:List Value},Rep w g.ω g.η T [3,k] m y cs→a.eval x=mkV T cs→Took E gv n s s g g a w k T m y (a.eval x):=
  fun hr hv=>⟨h,rfl,rfl,Fl.refl _ _ _,⟨_,hr,hv⟩,fun _ _ _ _ _=>rfl,rfl⟩
 unfold TV.grab at e
 split at e
 ·rename_i T m y
  rcases hx with ⟨u,rfl,hu⟩| ⟨hx,cs,hr⟩
  ·have hu':=hu.symm
   have hrv:=h.tm u
   rw[hu'] at hrv
   simp only at e
   have hcs:=jz3 h hu'
   have hne:m≠ .sh→(bif dz7 E (.tmp u) then (bif m.all then some (VV.v T .sh y,s.frz ⟨false,u,0,T⟩ y) else none) else some (.v T m y,s.out ⟨false,u,0,T⟩))=some (W',s')→
    ∃T m y g',W'= .v T m y∧Took E gv n s s' g g' a w k T m y (a.eval (.tmp u)):=by
    intro hm e
    have hv:a.eval (.tmp u)=mkV T (g.cells ⟨false,u,0,T⟩):=by rw[hcs];exact hrv.2
    cases hf:dz7 E (.tmp u)<;>rw[hf] at e
    ·simp only[cond_false,Option.some.injEq,Prod.mk.injEq] at e
     obtain ⟨rfl,rfl⟩:=e
     obtain ⟨g',hg'⟩:=h.tookOut (nzj hu') k
     exact ⟨_,_,_,g',rfl,by rw[hv];exact hg'⟩
    ·cases ha:m.all<;>rw[ha] at e
     ·cases e
     ·simp only[cond_true,Option.some.injEq,Prod.mk.injEq] at e
      obtain ⟨rfl,rfl⟩:=e
      obtain ⟨g',hg'⟩:=h.tookFrz (nzj hu') hm ha k
      exact ⟨_,_,_,g',rfl,by rw[hv];exact hg'⟩
   cases m with
   |sh=>
    cases e
    exact ⟨_,_,_,g,rfl,hsame (Rep.sh_mono (azJ.refl _ _) _ _ _ _ _ hrv.1) hrv.2⟩
   |no=>exact hne (by simp) e
   |own _ _=>exact hne (by simp) e
   |pr _ _=>exact hne (by simp) e
  ·split at e
   ·exact absurd rfl (hx _)
   ·cases e
    exact ⟨_,_,_,g,rfl,hsame hr.1 hr.2⟩
 ·rename_i p
  obtain ⟨pa,cs,hrv⟩:=hx.rv h
  obtain ⟨hv,y,m,hg,ha,hs⟩:=hrv
  rw[hg] at e
  simp only at e
  cases hf:dz7 E x<;>rw[hf] at e
  ·simp only[cond_false,Option.some.injEq,Prod.mk.injEq] at e
   obtain ⟨rfl,rfl⟩:=e
   obtain ⟨g',hg'⟩:=h.tookOut hg k
   exact ⟨_,_,_,g',rfl,by rw[hv];exact hg'⟩
  ·simp only[cond_true,Option.some.injEq,Prod.mk.injEq] at e
   obtain ⟨rfl,rfl⟩:=e
   obtain ⟨g',hg'⟩:=h.tookFrz hg hs ha k
   exact ⟨_,_,_,g',rfl,by rw[hv];exact hg'⟩
 ·cases e
theorem Rel.grabT (h:Rel E.gl gv n s g a w) (hgv: ∀i,a.eval (.global i)=gv i) (k:Nat) {T:Ty} {x:Operand} {t:Nat} {y:T.den} {m:Mk} (e:grabT E T s x t=some (y,m,s')):
 m.all=true∧ ∃g',Took E gv n s s' g g' a w k T m y (a.eval x):=by
 unfold TV.grabT at e
 split at e
 ·rename_i W s1 he
  obtain ⟨T',m',y',g',rfl,ht⟩:=h.grab (h.opFT hgv k T t x) he
  split at e
  ·rename_i y2 m2 hy
   simp only[VV.as] at hy
   split at hy
   ·rename_i y3 hy3
    obtain ⟨e1,e2⟩:=azk hy3
    subst e1;subst e2
    cases hy
    cases ha:m'.all<;>rw[ha] at e
    ·cases e
    ·cases e
     exact ⟨ha,g',ht⟩
   ·cases hy
  ·cases e
 ·cases e
def Far (w w':World) (ω ω':azw):Prop:= ∀b q,ω b=some ([3,1000000]++q)→ω' b=some ([3,1000000]++q)∧w'.heap[b]?=w.heap[b]?
theorem Far.refl (w:World) (ω:azw):Far w w ω ω:=fun _ _ h=>⟨h,rfl⟩
theorem Far.trans {w w' w'':World} {ω ω' ω'':azw} (h:Far w w' ω ω') (k:Far w' w'' ω' ω''):Far w w'' ω ω'':=fun b q hq=>by
 obtain ⟨h1,h2⟩:=h b q hq
 obtain ⟨h3,h4⟩:=k b q h1
 exact ⟨h3,h4.trans h2⟩
theorem Fl.far {w w':World} {ω ω':azw} {k:Nat} (h:Fl w w' ω ω' k) (hk:k<1000000:=by decide):Far w w' ω ω':=fun b q hq=>h.2 b 1000000 q (by omega) hq
theorem Hzv {w:World} {ω:azw} {p p':Path} (hp: ¬p<+: [3,1000000]:=by decide) (hp2: ¬[3,1000000]<+:p:=by decide):Far w w ω (mv ω p p'):=fun b q hq=>⟨bzk hq (fun h=>by
 rcases List.prefix_or_prefix_of_prefix h (List.prefix_append [3,1000000] q) with h1|h1
 ·exact hp h1
 ·exact hp2 h1),rfl⟩
structure Evo (w w':World) (ω ω':azw):Prop where
 os:w'.os=w.os
 tape:w'.tape=w.tape
 output:w'.output=w.output
 size:w.heap.size≤w'.heap.size
 still:azJ w w' ω ω'
 far:Far w w' ω ω'
theorem Evo.refl (w:World) (ω:azw):Evo w w ω ω:=⟨rfl,rfl,rfl,Nat.le_refl _,azJ.refl _ _,Far.refl _ _⟩
theorem Evo.trans {w w' w'':World} {ω ω' ω'':azw} (h:Evo w w' ω ω') (k:Evo w' w'' ω' ω''):Evo w w'' ω ω'':=
 ⟨k.os.trans h.os,k.tape.trans h.tape,k.output.trans h.output,Nat.le_trans h.size k.size,h.still.trans k.still,h.far.trans k.far⟩
theorem Evo.same {w:World} {ω ω':azw} (h:azJ w w ω ω') (f:Far w w ω ω'):Evo w w ω ω':=⟨rfl,rfl,rfl,Nat.le_refl _,h,f⟩
theorem Evo.fl {w:World} {ω ω':azw} {k:Nat} (h:Fl w w ω ω' k) (hk:k<1000000:=by decide):Evo w w ω ω':= .same h.1 (h.far hk)
def Gave (E:Env R) (gv:Nat→Value) (n:Nat) (a:Act) (g:G) (w:World) (W:VV) (s':St) (v:Value) (w':World):Prop:=
 ∃g' cs,∃k:Fin 1000000,Rel E.gl gv n s' g' a w'∧g'.η=g.η∧RV s' g' w' [3,k] cs W v∧Evo w w' g.ω g'.ω
theorem Gave.sh (h:Rel E.gl gv n s g a w) {T:Ty} {x:T.den} {v:Value} {pa:Path} {cs:List Value} (hr:Rep w g.ω g.η T pa .sh x cs) (hv:v=mkV T cs):Gave E gv n a g w (.v T .sh x) s v w:=
 ⟨g,cs,0,h,rfl,⟨Rep.sh_mono (azJ.refl _ _) _ _ _ _ _ hr,hv⟩,Evo.refl _ _⟩
theorem Gave.int (h:Rel E.gl gv n s g a w) {k:IntKind} {x:Int}:Gave E gv n a g w (.v (.int k) .sh x) s (.int k x) w:=Gave.sh h (pa:=[]) (cs:=[.int k x]) rfl rfl
theorem Gave.bool (h:Rel E.gl gv n s g a w) {x:Bool}:Gave E gv n a g w (.v .bool .sh x) s (.bool x) w:=Gave.sh h (pa:=[]) (cs:=[.bool x]) rfl rfl
theorem Gave.str (h:Rel E.gl gv n s g a w) {x:ByteArray}:Gave E gv n a g w (.v .str .sh x) s (.string x) w:=Gave.sh h (pa:=[]) (cs:=[.string x]) rfl rfl
theorem Gave.alias (h:Rel E.gl gv n s g a w) {W:VV} {v:Value} (hW:AV s g w W v):Gave E gv n a g w W s v w:=⟨g,[],0,h,rfl,RV.of_AV hW,Evo.refl _ _⟩
theorem Gave.took {g':G} {k:Nat} {T:Ty} {m:Mk} {y:T.den} {v:Value} {s0:St} (t:Took E gv n s0 s' g g' a w k T m y v) (hk:k<1000000:=by decide):Gave E gv n a g w (.v T m y) s' v w:=by
 obtain ⟨cs,h1,h2⟩:=t.rep
 exact ⟨g',cs,⟨k,hk⟩,t.rel,t.η,⟨h1,h2⟩,Evo.fl t.fl hk⟩
theorem Gave.put {W:VV} {v:Value} {w':World} {o:Option Nat} (h:Gave E gv n a g w W s' v w') (ho: ∀d,o=some d→d<n):
 ∃g',Rel E.gl gv n (s'.put o W) g' (a.put o v) w'∧g'.η=g.η∧Evo w w' g.ω g'.ω:=by
 obtain ⟨g1,cs,k,h1,h2,h3,h4⟩:=h
 cases o with
 |none=>exact ⟨g1,h1,h2,h4⟩
 |some d=>exact ⟨_,h1.set (ho d rfl) h3,h2,⟨h4.os,h4.tape,h4.output,h4.size,h4.still.trans bzJ,h4.far.trans (Hzv (fun hp=>by simp at hp;omega) (fun hp=>by simp at hp;omega))⟩⟩
theorem Rep.intV {w:World} {ω:azw} {η:Pins} {k:IntKind} {pa:Path} {m:Mk} {x:Int} {cs:List Value} (h:Rep w ω η (.int k) pa m x cs) (hm:m≠ .no):mkV (.int k) cs= .int k x:=by
 have:cs=[.int k x]:=Kn.out hm h
 subst this;rfl
theorem Rep.boolV {w:World} {ω:azw} {η:Pins} {pa:Path} {m:Mk} {x:Bool} {cs:List Value} (h:Rep w ω η .bool pa m x cs) (hm:m≠ .no):mkV .bool cs= .bool x:=by
 have:cs=[.bool x]:=Kn.out hm h
 subst this;rfl
theorem Rep.strV {w:World} {ω:azw} {η:Pins} {pa:Path} {m:Mk} {x:ByteArray} {cs:List Value} (h:Rep w ω η .str pa m x cs) (hm:m≠ .no):mkV .str cs= .string x:=by
 have:cs=[.string x]:=Kn.out hm h
 subst this;rfl
theorem Rel.int (h:Rel E.gl gv n s g a w) (hgv: ∀i,a.eval (.global i)=gv i) {t:Nat} {x:Operand} {k:IntKind} {m:Mk} {y:Int} (e:s.res (TV.opd E t s x)= .v (.int k) m y):a.eval x= .int k y:=by
 obtain ⟨pa,cs,hr⟩:=h.opd' hgv t x
 obtain ⟨hm,pa',cs',h1,h2⟩:=h.res hr _ _ _ e
 rw[h2];exact Rep.intV h1 hm
theorem Rel.bool (h:Rel E.gl gv n s g a w) (hgv: ∀i,a.eval (.global i)=gv i) {t:Nat} {x:Operand} {m:Mk} {y:Bool} (e:s.res (TV.opd E t s x)= .v .bool m y):a.eval x= .bool y:=by
 obtain ⟨pa,cs,hr⟩:=h.opd' hgv t x
 obtain ⟨hm,pa',cs',h1,h2⟩:=h.res hr _ _ _ e
 rw[h2];exact Rep.boolV h1 hm
theorem Rel.str (h:Rel E.gl gv n s g a w) (hgv: ∀i,a.eval (.global i)=gv i) {t:Nat} {x:Operand} {m:Mk} {y:ByteArray} (e:s.res (TV.opd E t s x)= .v .str m y):a.eval x= .string y:=by
 obtain ⟨pa,cs,hr⟩:=h.opd' hgv t x
 obtain ⟨hm,pa',cs',h1,h2⟩:=h.res hr _ _ _ e
 rw[h2];exact Rep.strV h1 hm
end
end Go.TV
namespace Go.TV
def Runs (P:Program) (o:Oper) (a:Act) (w:World) (v:Value) (w':World):Prop:=
 (execOp a.eval o).run P w= .ok (.value v) w'∨((execOp a.eval o).run P w= .ok .skip w'∧v=Go.undef)
section
variable {P:Program} {gv:Nat→Value} {n:Nat} {s s':St} {g:G} {a:Act} {w:World} {R:Type} {E:Env R} {o:Oper}
def Does (P:Program) (E:Env R) (gv:Nat→Value) (n:Nat) (g:G) (a:Act) (w:World) (o:Oper):Ev→Prop
 | .ok W s'=> ∃v w',Runs P o a w v w'∧Gave E gv n a g w W s' v w'
 | .chk c W s'=>c=true→ ∃v w',Runs P o a w v w'∧Gave E gv n a g w W s' v w'
 | .call _ _ _=>False
 | .any z b s'=> ∃v w' c,(c=b∨(z=true∧c=!b))∧Runs P o a w v w'∧Gave E gv n a g w (.v .bool .sh c) s' v w'
theorem Does.pure {W:VV} {s':St} {v:Value} (h:(execOp a.eval o).run P w= .ok (.value v) w) (hg:Gave E gv n a g w W s' v w):Does P E gv n g a w o (.ok W s'):=⟨v,w, .inl h,hg⟩
theorem xz9 {op:BinOp} {t:Nat} {x y:Operand} {k k':IntKind} {p q:Int}:(eqGuard op t x y (.int k p) (.int k' q)).run P w= .ok () w:=by
 unfold eqGuard;cases op<;>simp
theorem Fzf {op:BinOp} {t:Nat} {x y:Operand} {p q:ByteArray}:(eqGuard op t x y (.string p) (.string q)).run P w= .ok () w:=by
 unfold eqGuard;cases op<;>simp
theorem uzO {op:BinOp} {t:Nat} {x y:Operand} {p q:Bool}:(eqGuard op t x y (.bool p) (.bool q)).run P w= .ok () w:=by
 unfold eqGuard;cases op<;>simp
theorem Gzl (h:Rel E.gl gv n s g a w) {op:BinOp} {t yt:Nat} {x y:Operand} {k:IntKind} {p q:Int} {ev:Ev} (hop:o.op= .binOp op t x y yt) (hx:a.eval x= .int k p) (hy:a.eval y= .int k q)
 (e:Aze op k p q s=some ev):Does P E gv n g a w o ev:=by
 have hrun: ∀v,(binOp op t (.int k p) (.int k q)).run P w= .ok v w→(execOp a.eval o).run P w= .ok (.value v) w:=by
  intro v hv
  unfold execOp
  simp only[hop,hx,hy]
  simp [xz9,hv]
 unfold Aze at e
 split at e<;>cases e
 case h_1=>exact .pure (hrun _ (by simp [binOp,Op.intArith];rfl)) (Gave.int h)
 case h_2=>exact .pure (hrun _ (by simp [binOp,Op.intArith];rfl)) (Gave.int h)
 case h_3=>exact .pure (hrun _ (by simp [binOp,Op.intArith];rfl)) (Gave.int h)
 case h_4=>
  intro hc
  have hq:q≠0:=by simpa [nz] using hc
  exact ⟨_,w, .inl (hrun _ (by simp [binOp,Op.intDiv,hq];rfl)),Gave.int h⟩
 case h_5=>
  intro hc
  have hq:q≠0:=by simpa [nz] using hc
  exact ⟨_,w, .inl (hrun _ (by simp [binOp,Op.intDiv,hq];rfl)),Gave.int h⟩
 case h_6=>exact .pure (hrun _ (by simp only[binOp,Op.intBits,ne_eq,not_true,if_false,Sem.run_pure];rfl)) (Gave.int h)
 case h_7=>exact .pure (hrun _ (by simp only[binOp,Op.intBits,ne_eq,not_true,if_false,Sem.run_pure];rfl)) (Gave.int h)
 case h_8=>exact .pure (hrun _ (by simp only[binOp,Op.intBits,ne_eq,not_true,if_false,Sem.run_pure];rfl)) (Gave.int h)
 case h_9=>exact .pure (hrun _ (by simp only[binOp,Op.intBits,ne_eq,not_true,if_false,Sem.run_pure];rfl)) (Gave.int h)
 case h_10=>exact .pure (hrun _ (by simp only[binOp,Op.intCmp,ne_eq,not_true,if_false,Sem.run_pure];rfl)) (Gave.bool h)
 case h_11=>exact .pure (hrun _ (by simp only[binOp,Op.intCmp,ne_eq,not_true,if_false,Sem.run_pure];rfl)) (Gave.bool h)
 case h_12=>exact .pure (hrun _ (by simp only[binOp,Op.intCmp,ne_eq,not_true,if_false,Sem.run_pure];rfl)) (Gave.bool h)
 case h_13=>exact .pure (hrun _ (by simp only[binOp,Op.intCmp,ne_eq,not_true,if_false,Sem.run_pure];rfl)) (Gave.bool h)
 case h_14=>exact .pure (hrun _ (by simp only[binOp,Op.intCmp,ne_eq,not_true,if_false,Sem.run_pure];rfl)) (Gave.bool h)
 case h_15=>exact .pure (hrun _ (by simp only[binOp,Op.intCmp,ne_eq,not_true,if_false,Sem.run_pure];rfl)) (Gave.bool h)
theorem IzK (h:Rel E.gl gv n s g a w) {op:BinOp} {t yt:Nat} {x y:Operand} {k k':IntKind} {p q:Int} (hop:o.op= .binOp op t x y yt) (hx:a.eval x= .int k p) (hy:a.eval y= .int k' q):
 (op= .shl→Does P E gv n g a w o (.chk (nn q) (.v (.int k) .sh (ishl k p q)) s))∧(op= .shr→Does P E gv n g a w o (.chk (nn q) (.v (.int k) .sh (ishr k p q)) s)):=by
 have hrun: ∀v,(binOp op t (.int k p) (.int k' q)).run P w= .ok v w→(execOp a.eval o).run P w= .ok (.value v) w:=by
  intro v hv
  unfold execOp
  simp only[hop,hx,hy]
  simp [xz9,hv]
 constructor
 ·rintro rfl hc
  have hq: ¬q<0:=by simpa [nn] using hc
  exact ⟨_,w, .inl (hrun _ (by simp [binOp,Op.shift,hq];rfl)),Gave.int h⟩
 ·rintro rfl hc
  have hq: ¬q<0:=by simpa [nn] using hc
  exact ⟨_,w, .inl (hrun _ (by simp [binOp,Op.shift,hq];rfl)),Gave.int h⟩
theorem Gzu (h:Rel E.gl gv n s g a w) {op:BinOp} {t yt:Nat} {x y:Operand} {p q:ByteArray} {ev:Ev} (hop:o.op= .binOp op t x y yt) (hx:a.eval x= .string p) (hy:a.eval y= .string q)
 (e:zzX op p q s=some ev):Does P E gv n g a w o ev:=by
 have hrun: ∀v,(Op.stringOp op p q).run P w= .ok v w→(execOp a.eval o).run P w= .ok (.value v) w:=by
  intro v hv
  unfold execOp
  simp only[hop,hx,hy]
  simp [Fzf]
  cases op<;>simp [binOp,hv]
 unfold zzX at e
 split at e<;>cases e
 case h_1=>exact .pure (hrun _ (by simp only[Op.stringOp,Sem.run_pure];rfl)) (Gave.bool h)
 case h_2=>exact .pure (hrun _ (by simp only[Op.stringOp,Sem.run_pure];rfl)) (Gave.bool h)
 case h_3=>exact .pure (hrun _ (by simp only[Op.stringOp,Sem.run_pure];rfl)) (Gave.bool h)
 case h_4=>exact .pure (hrun _ (by simp only[Op.stringOp,Sem.run_pure];rfl)) (Gave.bool h)
 case h_5=>exact .pure (hrun _ (by simp only[Op.stringOp,Sem.run_pure];rfl)) (Gave.bool h)
 case h_6=>exact .pure (hrun _ (by simp only[Op.stringOp,Sem.run_pure];rfl)) (Gave.bool h)
 case h_7=>
  intro hc
  have hq: ¬(IntKind.i64.max<((p.size+q.size:Nat):Int)):=by
   have h1:IntKind.i64.max=9223372036854775807:=by decide
   rw[h1]
   have hc':((p.size:Int)+q.size)*((1+1:Nat):Int)≤1099511627776:=(rzZ (by omega)).1 hc
   omega
  exact ⟨_,w, .inl (hrun _ (by simp only[Op.stringOp,gt_iff_lt,hq,if_false,Sem.run_pure];rfl)),Gave.str h⟩
end
end Go.TV
namespace Go.TV
def azO:Ty→List Value
 | .int k=>[.int k 0]
 | .bool=>[.bool false]
 | .str=>[.string ⟨#[]⟩]
 | .sl _=>[.slice none 0 0]
 | .unit=>[]
 | .prod a b=>azO a++azO b
 | .item=>[.bool false, .string ⟨#[]⟩, .slice none 0 0]
 | .arr n t=>(List.replicate n (azO t)).flatten
def TyB (P:Program) (T:Ty) (t:TypeId):Prop:= ∃i,P.info? t=some i∧i.size=T.sz∧i.zero=some (mkV T (azO T))∧i.bytes≤24*T.sz
mutual
def TyOk (P:Program):Ty→TypeId→Prop
 | .int k,t=>TyB P (.int k) t∧P.underlying t=some (.int k)
 | .bool,t=>TyB P .bool t∧P.underlying t=some .bool
 | .str,t=>TyB P .str t∧P.underlying t=some .string
 | .sl U,t=>TyB P (.sl U) t∧ ∃e,P.underlying t=some (.slice e)∧TyOk P U e
 | .unit,t=>TyB P .unit t∧P.underlying t=some (.struct #[])
 | .prod a b,t=>TyB P (.prod a b) t∧ ∃f fs,P.underlying t=some (.struct ⟨f::fs⟩)∧P.eqGuardType P.depth t=false∧P.stoodInHeld t=false∧f.offset=0∧f.name≠ "_" ∧a.sz≠0∧TyOk P a f.type∧FlOk P b fs a.sz
 | .item,t=>TyB P .item t∧ ∃f1 f2 f3 e,P.underlying t=some (.struct #[f1,f2,f3])∧f1.offset=0∧f2.offset=1∧f3.offset=2∧P.underlying f1.type=some .bool∧P.underlying f2.type=some .string∧
  P.underlying f3.type=some (.slice e)∧e=t∧TyB P .bool f1.type∧TyB P .str f2.type∧TyB P (.sl .item) f3.type
 | .arr n U,t=>TyB P (.arr n U) t∧ ∃e,P.underlying t=some (.array n e)∧TyOk P U e
def FlOk (P:Program):Ty→List Field→Nat→Prop
 | .unit,fs,_=>fs=[]
 | .prod a b,fs,o=> ∃f rest,fs=f::rest∧f.offset=o∧f.name≠ "_" ∧a.sz≠0∧TyOk P a f.type∧FlOk P b rest (o+a.sz)
 |_,_,_=>False
end
theorem TyOk.b {P:Program} {T:Ty} {t:TypeId} (h:TyOk P T t):TyB P T t:=by
 cases T<;>simp only[TyOk] at h<;>exact h.1
section
variable {P:Program} {w:World}
theorem azg {t:TypeId} {d:TypeDesc} (h:P.underlying t=some d):(underlying t).run P w= .ok d w:=by simp [underlying,h]
theorem kzv {t:TypeId} {i:TypeInfo} (h:P.info? t=some i):(typeInfo t).run P w= .ok i w:=by simp [typeInfo,h]
theorem TyB.run_sizeOf {T:Ty} {t:TypeId} (h:TyB P T t):(sizeOf t).run P w= .ok T.sz w:=by
 obtain ⟨i,h1,h2,_⟩:=h
 simp [sizeOf,kzv h1,h2]
theorem TyB.run_zero {T:Ty} {t:TypeId} (h:TyB P T t):(zeroValue t).run P w= .ok (mkV T (azO T)) w:=by
 obtain ⟨i,h1,h2,h3,_⟩:=h
 simp [zeroValue,kzv h1,h3]
theorem TyOk.run_isAgg {T:Ty} {t:TypeId} (h:TyOk P T t):(Go.isAgg t).run P w= .ok (isAgg T) w:=by
 cases T<;>simp only[TyOk] at h
 ·simp [Go.isAgg,azg h.2,isAgg]
 ·simp [Go.isAgg,azg h.2,isAgg]
 ·simp [Go.isAgg,azg h.2,isAgg]
 ·obtain ⟨_,e,h,_⟩:=h;simp [Go.isAgg,azg h,isAgg]
 ·simp [Go.isAgg,azg h.2,isAgg]
 ·obtain ⟨_,f,fs,h,_⟩:=h;simp [Go.isAgg,azg h,isAgg]
 ·obtain ⟨_,f1,f2,f3,e,h,_⟩:=h;simp [Go.isAgg,azg h,isAgg]
 ·obtain ⟨_,e,h,_⟩:=h;simp [Go.isAgg,azg h,isAgg]
theorem ezV {b off i:Nat}:(⟨b,off,none⟩:Addr).add i=⟨b,off+i,none⟩:=by
 unfold Addr.add;split
 ·subst_vars;rfl
 ·rfl
theorem lzR {b off:Nat}: ∀ (m:Nat) (row:List Value) (i:Nat) (acc:Array Value),row.length=m→gzo w b (off+i) row→
 (loadCellsFrom ⟨b,off,none⟩ i m acc).run P w= .ok (acc++row.toArray) w
 |0,row,i,acc,hl,hr=>by
  have:row=[]:=List.length_eq_zero_iff.1 hl
  subst this
  simp [loadCellsFrom]
 |m+1,v::row,i,acc,hl,hr=>by
  have h0:w.cell? ⟨b,off+i,none⟩=some v:=by simpa using hr 0 v rfl
  have hr':gzo w b (off+(i+1)) row:=fun j u hj=>by
   have:=hr (j+1) u (by simpa using hj)
   rw[←this,show off+(i+1)+j=off+i+(j+1) by omega]
  have ih:=lzR m row (i+1) (acc.push v) (by simpa using hl) hr'
  simp only[loadCellsFrom,ezV,Sem.run_bind,run_load,h0,Result.andThen_ok,ih]
  simp
theorem fzM {b off:Nat} {row:List Value} {m:Nat} (hl:row.length=m) (hr:gzo w b off row):(loadCells ⟨b,off,none⟩ m).run P w= .ok row.toArray w:=by
 have:=lzR (P:=P) m row 0 #[] hl hr
 simpa [loadCells] using this
theorem TyOk.run_loadVar {T:Ty} {t:TypeId} (h:TyOk P T t) {b off:Nat} {row:List Value} (hl:row.length=T.sz) (hr:gzo w b off row) (hne:T.sz=1∨isAgg T=true):
 (loadVar t ⟨b,off,none⟩).run P w= .ok (mkV T row) w:=by
 unfold loadVar
 simp only[Sem.run_bind,h.run_isAgg,Result.andThen_ok]
 cases ha:isAgg T
 ·rcases hne with hne|hne
  ·match row,hl with
   | [v],_=>
     have h0:w.cell? ⟨b,off,none⟩=some v:=by simpa using hr 0 v rfl
     simp [h0,mkV,ha]
   | [],hl=>simp at hl;omega
   |_::_::_,hl=>simp at hl;omega
  ·rw[ha] at hne;cases hne
 ·simp [h.b.run_sizeOf,fzM hl hr,mkV,ha]
theorem Oz0 (T:Ty):T.sz=1∨isAgg T=true:=by cases T<;>first|exact .inl rfl|exact .inr rfl
def nzG (v:Value):Prop:=v.oneCell'=true
def kzV (w:World) (b off:Nat):List Value→World
 | []=>w
 |v::row=>kzV (w.setCell ⟨b,off,none⟩ v) b (off+1) row
theorem lzg {b off:Nat}: ∀ (row:List Value) (i:Nat) (w:World) (cells:Array Value) (e:TypeId) (fr:Nat×Nat),w.heap[b]?=some (.cells cells e fr)→bzg fr cells.size→off+i+row.length≤cells.size→
 (∀v∈row,nzG v)→(storeCells ⟨b,off,none⟩ row i).run P w= .ok () (kzV w b (off+i) row)
 | [],i,w,cells,e,fr,hh,hu,hl,hc=>by simp [storeCells,kzV]
 |v::row,i,w,cells,e,fr,hh,hu,hl,hc=>by
  simp only[List.length_cons] at hl
  have hlt:off+i<cells.size:=by omega
  have h0:w.cell? ⟨b,off+i,none⟩=some cells[off+i]:=by simp [World.cell?,hh,Array.getElem?_eq_getElem hlt]
  have hf:w.frozen? ⟨b,off+i,none⟩=false:=by
   have:=hu _ hlt
   simp only[World.frozen?,hh]
   simpa using this
  have hh':(w.setCell ⟨b,off+i,none⟩ v).heap[b]?=some (.cells (cells.setIfInBounds (off+i) v) e fr):=by
   simp only[World.setCell,Array.getElem?_modify]
   simp [hh]
  have hl':off+(i+1)+row.length≤(cells.setIfInBounds (off+i) v).size:=by rw[Array.size_setIfInBounds];omega
  have ih:=lzg row (i+1) _ _ e fr hh' (by simpa using hu) hl' (fun v hv=>hc v (by simp [hv]))
  simp only[storeCells,ezV,Sem.run_bind,run_store P w _ v .plain (hc v (by simp)),h0,hf,Result.andThen_ok]
  rw[show off+(i+1)=off+i+1 by omega] at ih
  simpa [kzV] using ih
theorem jzJ {b:Nat}: ∀ (row:List Value) (off:Nat) (w:World) (cells:Array Value) (e:TypeId) (fr:Nat×Nat),w.heap[b]?=some (.cells cells e fr)→off+row.length≤cells.size→
 (∃cells',(kzV w b off row).heap[b]?=some (.cells cells' e fr)∧cells'.toList=bzC cells.toList off row)∧(∀b',b'≠b→(kzV w b off row).heap[b']?=w.heap[b']?)∧(kzV w b off row).heap.size=w.heap.size∧
  (kzV w b off row).os=w.os∧(kzV w b off row).tape=w.tape∧(kzV w b off row).output=w.output
 | [],off,w,cells,e,fr,hh,hl=>⟨⟨cells,hh,by simp [bzC]⟩,fun _ _=>rfl,rfl,rfl,rfl,rfl⟩
 |v::row,off,w,cells,e,fr,hh,hl=>by
  simp only[List.length_cons] at hl
  have hh':(w.setCell ⟨b,off,none⟩ v).heap[b]?=some (.cells (cells.setIfInBounds off v) e fr):=by
   simp only[World.setCell,Array.getElem?_modify]
   simp [hh]
  have hl':off+1+row.length≤(cells.setIfInBounds off v).size:=by rw[Array.size_setIfInBounds];omega
  obtain ⟨⟨cells',h1,h2⟩,h3,h4,h5,h6,h7⟩:=jzJ row (off+1) _ _ e fr hh' hl'
  refine ⟨⟨cells',h1,?_⟩,fun b' hb=>?_,?_,h5,h6,h7⟩
  ·rw[h2]
   refine List.ext_getElem? fun j=>?_
   have l1:off+1+row.length≤(cells.setIfInBounds off v).toList.length:=by rw[Array.length_toList];exact hl'
   have hcl:(v::row).length=row.length+1:=rfl
   have hsz:cells.toList.length=cells.size:=Array.length_toList
   have hsz':(cells.setIfInBounds off v).toList.length=cells.size:=by rw[Array.length_toList,Array.size_setIfInBounds]
   have l2:off+(v::row).length≤cells.toList.length:=by omega
   rw[czP l1,czP l2]
   simp only[Array.toList_setIfInBounds,List.getElem?_set]
   by_cases hj:j<off
   ·rw[if_pos (by omega),if_neg (by omega),if_pos hj]
   ·by_cases hj2:j=off
    ·subst hj2
     rw[if_pos (by omega),if_pos rfl,if_pos (by omega),if_neg (by omega),if_pos (by omega)]
     simp
    ·by_cases hj3:j<off+1+row.length
     ·rw[if_neg (by omega),if_pos hj3,if_neg hj,if_pos (by omega)]
      have:j-off=(j- (off+1))+1:=by omega
      rw[this,List.getElem?_cons_succ]
     ·rw[if_neg (by omega),if_neg hj3,if_neg (by omega),if_neg hj,if_neg (by omega)]
  ·rw[kzV,h3 b' hb]
   simp only[World.setCell,Array.getElem?_modify]
   rw[if_neg (Ne.symm hb)]
  ·rw[kzV,h4];simp [World.setCell]
end
end Go.TV
namespace Go.TV
section
variable {P:Program} {gv:Nat→Value} {n:Nat} {s s':St} {g:G} {a:Act} {w:World} {R:Type} {E:Env R} {o:Oper}
theorem zzD {b off:Nat} {cells:Array Value} {e:TypeId} {fr:Nat×Nat} {m:Nat} (h:w.heap[b]?=some (.cells cells e fr)):gzo w b off ((cells.toList.drop off).take m):=by
 intro j v hj
 simp only[World.cell?,h]
 have hm:j<m:=by
  rcases Nat.lt_or_ge j m with h|h
  ·exact h
  ·rw[List.getElem?_eq_none (by simp only[List.length_take];omega)] at hj;cases hj
 rw[List.getElem?_take_of_lt hm,List.getElem?_drop] at hj
 simpa using hj
theorem gzo.sub {b off o m:Nat} {row:List Value} (h:gzo w b off row):gzo w b (off+o) ((row.drop o).take m):=by
 intro j v hj
 have hm:j<m:=by
  rcases Nat.lt_or_ge j m with h|h
  ·exact h
  ·rw[List.getElem?_eq_none (by simp only[List.length_take];omega)] at hj;cases hj
 rw[List.getElem?_take_of_lt hm,List.getElem?_drop] at hj
 have:=h (o+j) v hj
 rw[←this,Nat.add_assoc]
theorem Qzb {ω:azw} {η:Pins} {pa pa':Path} {vs:List VV} {v:Value} (ha:vs.all shV=true) (h:tupV w ω η pa vs v):tupV w ω η pa' vs v:=by
 obtain ⟨vals,h2,h3,h4⟩:=h
 refine ⟨vals,h2,h3,fun i c v hc hv=>?_⟩
 have h5:=h4 i c v hc hv
 have h6:=List.all_eq_true.1 ha c (List.mem_of_getElem? hc)
 unfold shV at h6
 split at h6
 ·obtain ⟨cs,h7,h8⟩:=h5
  exact ⟨cs,Rep.sh_mono (fun b h h'=>⟨h',rfl⟩) _ _ _ _ _ h7,h8⟩
 ·cases h6
theorem Rel.takeTup (h:Rel E.gl gv n s g a w) {u:Nat} {vs:List VV} (hu:s.tm u= .tup vs) (k:Nat):
 ∃g',Rel E.gl gv n (s.upd u .junk) g' a w∧g'.η=g.η∧g'.φ=g.φ∧tupV w g'.ω g'.η [3,k] vs (a.eval (.tmp u))∧Fl w w g.ω g'.ω k:=by
 have h1:=h.forget u (fun T M x e=>by rw[hu] at e;cases e)
 have ht:tupV w g.ω g.η (azC false u) vs (a.eval (.tmp u)):=by
  have:=h.tm u
  rw[hu] at this
  exact this
 let ω':=mv g.ω (azC false u) [3,k]
 have hst:azJ w w g.ω ω':=bzJ
 have hku: ∀b q,g.ω b=some q→ ¬azC false u<+:q→ω' b=some q:=fun b q hq hp=>bzk hq hp
 refine ⟨{g with ω:=ω'},⟨fun j=>?_,fun b=>?_,fun i t x o hi=>?_,fun b hb=>h.lt b (nzX hb),h.sz,h.df⟩,rfl,rfl,?_,hst,fun b j q _ hq=>⟨hku b _ hq (azI (.inl (by decide))),rfl⟩⟩
 ·by_cases hj:j=u
  ·subst hj;simp only[St.upd,show Nat.beq j j=true by simp,cond_true];exact RV.of_AV (W:= .junk) trivial
  ·have hj1:=h1.tm j
   refine hj1.keep (g':={g with ω:=ω'}) rfl hst (fun b q hq=>⟨hku b _ hq (azI (.inr (Ne.symm hj))),rfl⟩) fun ha=>?_
   exact ha.keep rfl hst (fun _ _=>rfl) (fun q _=>⟨fun y m hy=>⟨y,hy,rfl⟩,rfl⟩) (fun q _ _=>⟨fun _ hz=>hz,fun _ _ _ _=>rfl⟩)
 ·have hu:=h.bx b
  show BV _ w b (s.bx b)
  cases hv:s.bx b with
  |v T m x=>
   rw[hv] at hu
   obtain ⟨h2,h3,h4⟩:=hu
   exact ⟨hku _ _ h2 (by simp [azC]),h3,Rep.mono hst _ _ _ _ _ _ (fun b' q _ hq=>⟨hku _ _ hq (azI (.inl (by decide))),rfl⟩) h4⟩
  |junk=>trivial
  |_=>rw[hv] at hu;exact hu
 ·exact (h.gl i t x o hi).keep rfl hst (fun _ _=>rfl) (fun q hq=>by cases hq) (fun q hq=>by cases hq)
 ·obtain ⟨vals,h2,h3,h4⟩:=ht
  refine ⟨vals,h2,h3,fun i c v hc hv=>(h4 i c v hc hv).keep fun t m x cs=>Rep.mono hst t _ _ _ _ _ fun b q _ hq=>?_⟩
  have:=ozy (p:=azC false u) (p':=[3,k]) (q:=[i]++q) (by simpa using hq)
  exact ⟨by simpa using this,rfl⟩
theorem xzj (h:Rel E.gl gv n s g a w) (hgv: ∀i,a.eval (.global i)=gv i) {t:Nat} {x:Operand} {ev:Ev} (e:czZ s x (TV.opd E t s x)=some ev): ∃W s',ev= .ok W s'∧Gave E gv n a g w W s' (a.eval x) w:=by
 have hx:=h.opF hgv 0 t x
 obtain ⟨pa,cs,hr⟩:=hx.rv h
 unfold czZ at e
 generalize hW:TV.opd E t s x=W at*
 match W,e,hr with
 | .v T m y,e,hr=>
   cases m with
   |sh=>cases e;exact ⟨_,_,rfl,Gave.sh h hr.1 hr.2⟩
   |no=>
    rcases hx with ⟨u,rfl,hu⟩| ⟨hx,cs',hr'⟩
    ·cases e
    ·cases x with
     |tmp u=>exact absurd rfl (hx u)
     |_=>cases e;exact ⟨_,_,rfl,g,cs',0,h,rfl,hr',Evo.refl _ _⟩
   |own p m=>
    rcases hx with ⟨u,rfl,hu⟩| ⟨hx,cs',hr'⟩
    ·simp only at e
     cases ha:(Mk.own p m).all<;>rw[ha] at e
     ·cases e
     ·cases e
      have:=h.tm u
      rw[←hu] at this
      exact ⟨_,_,rfl,Gave.alias h ⟨by rw[jz3 h hu.symm];exact this.2,y,_,nzj hu.symm,ha,by simp⟩⟩
    ·cases x with
     |tmp u=>exact absurd rfl (hx u)
     |_=>cases e;exact ⟨_,_,rfl,g,cs',0,h,rfl,hr',Evo.refl _ _⟩
   |pr p m=>
    rcases hx with ⟨u,rfl,hu⟩| ⟨hx,cs',hr'⟩
    ·simp only at e
     cases ha:(Mk.pr p m).all<;>rw[ha] at e
     ·cases e
     ·cases e
      have:=h.tm u
      rw[←hu] at this
      exact ⟨_,_,rfl,Gave.alias h ⟨by rw[jz3 h hu.symm];exact this.2,y,_,nzj hu.symm,ha,by simp⟩⟩
    ·cases x with
     |tmp u=>exact absurd rfl (hx u)
     |_=>cases e;exact ⟨_,_,rfl,g,cs',0,h,rfl,hr',Evo.refl _ _⟩
 | .tup vs,e,hr=>
   rcases hx with ⟨u,rfl,hu⟩| ⟨hx,cs',hr'⟩
   ·cases e
    cases ha:vs.all shV
    ·obtain ⟨g',h1,h2,h3,h4,h5⟩:=h.takeTup hu.symm 0
     exact ⟨_,_,rfl,g',[],0,h1,h2,h4,Evo.fl h5⟩
    ·have ht:tupV w g.ω g.η (azC false u) vs (a.eval (.tmp u)):=by
      have:=h.tm u
      rw[hu.symm] at this
      exact this
     exact ⟨_,_,rfl,g,[],0,h,rfl,Qzb ha ht,Evo.refl _ _⟩
   ·cases x with
    |tmp u=>exact absurd rfl (hx u)
    |_=>cases e
 | .nilp,e,hr=>cases e;exact ⟨_,_,rfl,Gave.alias h hr⟩
 | .ref p,e,hr=>cases e;exact ⟨_,_,rfl,Gave.alias h hr⟩
 | .sref p i o t,e,hr=>cases e;exact ⟨_,_,rfl,Gave.alias h hr⟩
 | .box b o,e,hr=>cases e;exact ⟨_,_,rfl,Gave.alias h hr⟩
 | .ep p i o,e,hr=>cases e;exact ⟨_,_,rfl,Gave.alias h hr⟩
 | .cp t x o,e,hr=>cases e;exact ⟨_,_,rfl,Gave.alias h hr⟩
theorem KzE (h:Rel E.gl gv n s g a w) (hgv: ∀i,a.eval (.global i)=gv i) {x:Operand} {ev:Ev} (hop:o.op= .move x) (e:czZ s x (TV.opd E o.type s x)=some ev):Does P E gv n g a w o ev:=by
 obtain ⟨W,s',rfl,hg⟩:=xzj h hgv e
 exact .pure (by simp [execOp,hop]) hg
theorem Lz0 (h:Rel E.gl gv n s g a w) (hgv: ∀i,a.eval (.global i)=gv i) {c x y:Operand} {ev:Ev} (hop:o.op= .pick c x y)
 (e:(match s.res (TV.opd E 0 s c) with| .v .bool _ true=>czZ s x (TV.opd E o.type s x)| .v .bool _ false=>czZ s y (TV.opd E o.type s y)|_=>none)=some ev):Does P E gv n g a w o ev:=by
 split at e
 ·rename_i hc
  obtain ⟨W,s',rfl,hg⟩:=xzj h hgv e
  exact .pure (by simp [execOp,hop,h.bool hgv hc,asBool]) hg
 ·rename_i hc
  obtain ⟨W,s',rfl,hg⟩:=xzj h hgv e
  exact .pure (by simp [execOp,hop,h.bool hgv hc,asBool]) hg
 ·cases e
theorem Ez3 (h:Rel E.gl gv n s g a w) (hgv: ∀i,a.eval (.global i)=gv i) {x:Operand} {ev:Ev} (hop:o.op= .assign x) (e:pzC E s x o.type=some ev):Does P E gv n g a w o ev:=by
 have hx:=h.opF hgv 0 o.type x
 obtain ⟨pa,cs,hr⟩:=hx.rv h
 have hrun:(execOp a.eval o).run P w= .ok (.value (a.eval x)) w:=by simp [execOp,hop]
 have hgrab:(match TV.grab E s x (TV.opd E o.type s x) with|some (w,s)=>some (Ev.ok w s)|none=>none)=some ev→Does P E gv n g a w o ev:=by
  intro e
  split at e
  ·rename_i W s1 he
   obtain ⟨T,m,y,g',rfl,ht⟩:=h.grab hx he
   cases e
   exact .pure hrun (Gave.took ht)
  ·cases e
 unfold pzC at e
 generalize hW:TV.opd E o.type s x=W at*
 match W,e,hr with
 | .v T m y,e,hr=>exact hgrab e
 | .ref p,e,hr=>exact hgrab e
 | .nilp,e,hr=>cases e;exact .pure hrun (Gave.alias h hr)
 | .sref p i o t,e,hr=>cases e;exact .pure hrun (Gave.alias h hr)
 | .box b o,e,hr=>cases e;exact .pure hrun (Gave.alias h hr)
 | .ep p i o,e,hr=>cases e;exact .pure hrun (Gave.alias h hr)
 | .cp t x o,e,hr=>cases e;exact .pure hrun (Gave.alias h hr)
theorem Mzc (h:Rel E.gl gv n s g a w) (hgv: ∀i,a.eval (.global i)=gv i) {op:UnOp} {t:Nat} {x:Operand} {ev:Ev} (hop:o.op= .unOp op t x)
 (e:(match op,s.res (TV.opd E o.type s x) with
  | .not, .v .bool _ b=>some (.ok (.v .bool .sh (bnot b)) s)
  | .neg, .v (.int k) _ a=>some (.ok (.v (.int k) .sh (ineg k a)) s)
  | .xor, .v (.int k) _ a=>some (.ok (.v (.int k) .sh (inot k a)) s)
  |_,_=>none)=some ev):Does P E gv n g a w o ev:=by
 cases hr:s.res (TV.opd E o.type s x) with
 |v T m y=>
  rw[hr] at e
  cases op<;>cases T<;>simp only[Option.some.injEq,reduceCtorEq] at e
  ·subst e;exact .pure (by simp only[execOp,hop,h.int hgv hr,Op.unary,Op.intArith,Sem.run_bind,Sem.run_pure,Result.andThen_ok];rfl) (Gave.int h)
  ·subst e;exact .pure (by simp only[execOp,hop,h.int hgv hr,Op.unary,Op.intBits,Sem.run_bind,Sem.run_pure,Result.andThen_ok];rfl) (Gave.int h)
  ·subst e;exact .pure (by simp only[execOp,hop,h.bool hgv hr,Op.unary,Sem.run_bind,Sem.run_pure,Result.andThen_ok];rfl) (Gave.bool h)
 |_=>rw[hr] at e;cases op<;>simp at e
theorem BzS (h:Rel E.gl gv n s g a w) (hgv: ∀i,a.eval (.global i)=gv i) {x:Operand} {ev:Ev} (hop:o.op= .nilCheck x)
 (e:(match TV.opd E 0 s x with
  | .box b p=>some (.ok (.box b p) s)
  | .ep l i p=>some (.ok (.ep l i p) s)
  | .cp t a p=>some (.ok (.cp t a p) s)
  |_=>none)=some ev):Does P E gv n g a w o ev:=by
 obtain ⟨pa,cs,hr⟩:=h.opd' hgv 0 x
 split at e
 ·rename_i hc;cases e
  rw[hc] at hr
  have hv:a.eval x=_:=hr
  exact .pure (by simp [execOp,hop,hv]) (Gave.alias h hr)
 ·rename_i l i p hc;cases e
  rw[hc] at hr
  have hv: ∃ad,a.eval x= .pointer (some ad):=by
   match l,hr with
   | ⟨bx,n',q, .sl U⟩,⟨xs,m,r,N,c,h1,h2,h3,h4,h5,h6⟩=>exact ⟨_,h6⟩
   | ⟨true,n',q, .arr k U⟩,⟨h1,h2,h3⟩=>exact ⟨_,h3⟩
  obtain ⟨ad,hv⟩:=hv
  exact .pure (v:=a.eval x) (by simp [execOp,hop,hv]) (Gave.alias h hr)
 ·rename_i hc;cases e
  rw[hc] at hr
  obtain ⟨b,off,row,h1,h2⟩:=id hr
  exact .pure (v:=a.eval x) (by simp [execOp,hop,h1]) (Gave.alias h hr)
 ·cases e
end
end Go.TV
namespace Go.TV
section
variable {P:Program} {gv:Nat→Value} {n:Nat} {s s':St} {g:G} {a:Act} {w:World} {R:Type} {E:Env R} {o:Oper}
theorem Hz4: ∀ (T:Ty) (fs:List Field) (o f d:Nat) (U:Ty),FlOk P T fs o→azX T f=some d→czR T f=some U→ ∃fld,fs[f]?=some fld∧fld.offset=o+d∧TyOk P U fld.type∧U.sz≠0
 | .prod a b,fs,o,0,d,U,h,h1,h2=>by
   obtain ⟨f,rest,rfl,h3,h4,h5,h6,h7⟩:=h
   cases h1;cases h2
   exact ⟨f,rfl,h3,h6,h5⟩
 | .prod a b,fs,o,f+1,d,U,h,h1,h2=>by
   obtain ⟨f0,rest,rfl,h3,h4,h5,h6,h7⟩:=h
   simp only[azX] at h1
   split at h1
   ·rename_i d' hd
    cases h1
    obtain ⟨fld,h8,h9,h10,h11⟩:=Hz4 b rest _ f d' U h7 hd h2
    exact ⟨fld,by simpa using h8,by omega,h10,h11⟩
   ·cases h1
 | .unit,_,_,_,_,_,_,h1,_=>by cases h1
 | .item,_,_,_,_,_,h,_,_=>by cases h
 | .int _,_,_,_,_,_,h,_,_=>by cases h
 | .bool,_,_,_,_,_,h,_,_=>by cases h
 | .str,_,_,_,_,_,h,_,_=>by cases h
 | .sl _,_,_,_,_,_,h,_,_=>by cases h
 | .arr _ _,_,_,_,_,_,h,_,_=>by cases h
theorem TyOk.field {T U:Ty} {t f d:Nat} (h:TyOk P T t) (h1:azX T f=some d) (h2:czR T f=some U):
 ∃fs fld,P.underlying t=some (.struct fs)∧fs[f]?=some fld∧fld.offset=d∧TyOk P U fld.type∧U.sz≠0:=by
 cases T with
 |prod a b=>
  simp only[TyOk] at h
  obtain ⟨_,f0,fs,h3,_,_,h4,h5,h6,h7,h8⟩:=h
  obtain ⟨fld,h9,h10,h11,h12⟩:=Hz4 (.prod a b) (f0::fs) 0 f d U (by rw[FlOk];exact ⟨f0,fs,rfl,h4,h5,h6,h7,by simpa using h8⟩) h1 h2
  exact ⟨_,fld,h3,by simpa using h9,by omega,h11,h12⟩
 |item=>
  have hi:=h
  simp only[TyOk] at h
  obtain ⟨_,f1,f2,f3,e,h3,h4,h5,h6,h7,h8,h9,h10,h11,h12,h13⟩:=h
  match f,h1,h2 with
  |0,h1,h2=>cases h1;cases h2;exact ⟨_,f1,h3,rfl,h4,by simp only[TyOk];exact ⟨h11,h7⟩,by simp [Ty.sz]⟩
  |1,h1,h2=>cases h1;cases h2;exact ⟨_,f2,h3,rfl,h5,by simp only[TyOk];exact ⟨h12,h8⟩,by simp [Ty.sz]⟩
  |2,h1,h2=>
   cases h1;cases h2
   have:TyOk P (.sl .item) f3.type:=by
    rw[TyOk];exact ⟨h13,e,h9,by rw[h10];exact hi⟩
   exact ⟨_,f3,h3,rfl,h6,this,by simp [Ty.sz]⟩
  |k+3,h1,h2=>cases h2
 |_=>cases h1
theorem Ezv {T:Ty} {f d:Nat} (h:azX T f=some d):isAgg T=true:=by cases T<;>first|rfl|cases h
theorem TyOk.run_part {U:Ty} {t:Nat} (h:TyOk P U t) {cs:List Value} {off:Nat} (hl:off+U.sz≤cs.length):(part t cs.toArray off).run P w= .ok (mkV U ((cs.drop off).take U.sz)) w:=by
 unfold part
 simp only[Sem.run_bind,h.run_isAgg,Result.andThen_ok]
 rcases Oz0 U with hs|hs
 ·cases ha:isAgg U
  ·have hlt:off<cs.length:=by omega
   have:cs.toArray[off]?=some cs[off]:=by simp [List.getElem?_eq_getElem hlt]
   have h2:((cs.drop off).take U.sz).headD undef=cs[off]:=by
    rw[hs,List.drop_eq_getElem_cons hlt];rfl
   simp only[Bool.false_eq_true,if_false,this,Sem.run_pure]
   simp only[mkV,ha,Bool.false_eq_true,if_false,h2]
  ·simp only[if_true,Sem.run_bind,h.b.run_sizeOf,Result.andThen_ok,Sem.run_pure]
   simp only[mkV,ha,if_true,List.extract_toArray,List.extract_eq_take_drop]
   congr 4;omega
 ·rw[hs]
  simp only[if_true,Sem.run_bind,h.b.run_sizeOf,Result.andThen_ok,Sem.run_pure]
  simp only[mkV,hs,if_true,List.extract_toArray,List.extract_eq_take_drop]
  congr 4;omega
theorem kzW {α:Type} {l:List α} {o0 o n m:Nat} (h:o+m≤n):(((l.drop o0).take n).drop o).take m=(l.drop (o0+o)).take m:=by
 rw[List.drop_take,List.take_take,List.drop_drop,Nat.min_eq_left (by omega)]
theorem mzX: ∀ (T:Ty) (f d:Nat) (U:Ty),azX T f=some d→czR T f=some U→d+U.sz≤T.sz
 | .prod a b,0,d,U,h1,h2=>by cases h1;cases h2;simp [Ty.sz]
 | .prod a b,f+1,d,U,h1,h2=>by
   simp only[azX] at h1
   split at h1
   ·rename_i d' hd
    cases h1
    have:=mzX b f d' U hd h2
    simp only[Ty.sz];omega
   ·cases h1
 | .item,0,d,U,h1,h2=>by cases h1;cases h2;decide
 | .item,1,d,U,h1,h2=>by cases h1;cases h2;decide
 | .item,2,d,U,h1,h2=>by cases h1;cases h2;decide
 | .item,f+3,d,U,h1,h2=>by cases h2
 | .unit,_,_,_,h1,_=>by cases h1
 | .int _,_,_,_,h1,_=>by cases h1
 | .bool,_,_,_,h1,_=>by cases h1
 | .str,_,_,_,h1,_=>by cases h1
 | .sl _,_,_,_,h1,_=>by cases h1
 | .arr _ _,_,_,_,h1,_=>by cases h1
theorem Izv (h:Rel E.gl gv n s g a w) (hgv: ∀i,a.eval (.global i)=gv i) {t f:Nat} {T:Ty} {x:Operand} {ev:Ev} (hT:TyOk P T t) (hop:o.op= .field t x f) (e:uzi s x T f (TV.opd E t s x)=some ev):
 Does P E gv n g a w o ev:=by
 have hx:=h.opF hgv 0 t x
 obtain ⟨pa,cs,hr⟩:=hx.rv h
 unfold uzi at e
 split at e
 case h_2=>cases e
 rename_i d U hd hU
 obtain ⟨fs,fld,h1,h2,h3,h4,h5⟩:=hT.field hd hU
 have hag:=Ezv hd
 have hfit:=mzX T f d U hd hU
 have hrun: ∀cs:List Value,cs.length=T.sz→a.eval x=mkV T cs→(execOp a.eval o).run P w= .ok (.value (mkV U ((cs.drop d).take U.sz))) w:=by
  intro cs hl hv
  have hp:(part fld.type cs.toArray d).run P w=_:=h4.run_part (by omega)
  simp [execOp,hop,Instr.field,azg h1,h2,hv,mkV,hag,asAgg,h3,hp]
 generalize hW:TV.opd E t s x=W at*
 match W,e,hr with
 | .v U' m y,e,hr=>
   cases hc:isTy T U'<;>simp only[hc,cond_false,cond_true] at e
   ·cases e
   have:=bzD hc
   subst this
   have hl:=Rep.length _ _ _ _ _ hr.1
   have hrun':=hrun cs hl hr.2
   split at e
   ·rename_i z hz
    have hrep:=Rep.getAt T d _ _ _ _ _ hz hr.1
    split at e
    ·rename_i hm
     cases e
     rw[hm] at hrep
     exact .pure hrun' (Gave.sh h hrep rfl)
    ·rename_i hm
     rcases hx with ⟨u,rfl,hu⟩| ⟨hx,_⟩
     ·have hcs:=h.tm u
      rw[←hu] at hcs
      have hget:s.get ⟨false,u,d,U⟩=some (z,azM U T d m):=Dzm (q:=⟨false,u,d,U⟩) hu.symm hz
      cases ha:(azM U T d m).all<;>simp only[ha,cond_false,cond_true] at e
      ·cases e
      ·cases e
       obtain ⟨g',hg'⟩:=h.tookOut hget 0
       exact .pure (hrun (g.tc u) (Rep.length _ _ _ _ _ hcs.1) hcs.2) (Gave.took hg')
     ·cases x with
      |tmp u=>exact absurd rfl (hx u)
      |_=>cases e
   ·cases e
 | .ref p,e,hr=>
   cases hc:isTy T p.t<;>simp only[hc,cond_false,cond_true] at e
   ·cases e
   have hpt:=bzD hc
   obtain ⟨hv,y,m,hg,ha,hs⟩:=hr
   obtain ⟨_,_,_,_,_,_,_,hrep⟩:=h.get hg
   have hl:=Rep.length _ _ _ _ _ hrep
   have hrun':=hrun (g.cells p) (by rw[hl,hpt]) (by rw[hv,hpt])
   have hce:((g.cells p).drop d).take U.sz=g.cells ⟨p.bx,p.n,p.o+d,U⟩:=by
    simp only[G.cells]
    rw[←hpt]
    exact kzW hfit
   rw[hce] at hrun'
   split at e
   ·rename_i z m' hz
    obtain ⟨_,_,_,_,_,_,_,hrep'⟩:=h.get hz
    cases m' with
    |sh=>cases e;exact .pure hrun' (Gave.sh h hrep' rfl)
    |no=>cases e
    |own q me=>
     cases ha:(Mk.own q me).all<;>simp only[ha,cond_false,cond_true] at e<;>cases e
     exact .pure hrun' (Gave.alias h ⟨rfl,z,_,hz,ha,by simp⟩)
    |pr q me=>
     cases ha:(Mk.pr q me).all<;>simp only[ha,cond_false,cond_true] at e<;>cases e
     exact .pure hrun' (Gave.alias h ⟨rfl,z,_,hz,ha,by simp⟩)
   ·cases e
theorem yz8 (h:Rel E.gl gv n s g a w) (hgv: ∀i,a.eval (.global i)=gv i) {t f:Nat} {T:Ty} {x:Operand} {ev:Ev} (hT:TyOk P T t) (hU: ∃U,czR T f=some U) (hop:o.op= .fieldAddr t x f)
 (e:(match azX T f,TV.opd E 0 s x with
  |some d, .box b p=>some (.ok (.box b (p+d)) s)
  |some d, .ep l i p=>some (.ok (.ep l i (p+d)) s)
  |some d, .cp U a p=>some (.ok (.cp U a (p+d)) s)
  |_,_=>none)=some ev):Does P E gv n g a w o ev:=by
 obtain ⟨pa,cs,hr⟩:=h.opd' hgv 0 x
 obtain ⟨U,hU⟩:=hU
 cases hd:azX T f with
 |none=>rw[hd] at e;cases e
 |some d=>
  rw[hd] at e
  obtain ⟨fs,fld,h1,h2,h3,h4,h5⟩:=hT.field hd hU
  have hrun: ∀b off,a.eval x= .pointer (some ⟨b,off,none⟩)→(execOp a.eval o).run P w= .ok (.value (.pointer (some ⟨b,off+d,none⟩))) w:=by
   intro b off hv
   simp [execOp,hop,Instr.fieldAt,azg h1,h2,hv,Instr.sureAddr,fieldPlace,h4.b.run_sizeOf,h5,ezV,h3]
  generalize hW:TV.opd E 0 s x=W at*
  match W,e,hr with
  | .box b p,e,hr=>
    cases e
    exact .pure (hrun _ _ hr) (Gave.alias h rfl)
  | .ep ⟨bx,n',q, .sl U'⟩ i p,e,⟨xs,m,r,N,c,g1,g2,g3,g4,g5,g6⟩=>
    cases e
    exact .pure (hrun _ _ g6) (Gave.alias h ⟨xs,m,r,N,c,g1,g2,g3,g4,g5,by rw[Nat.add_assoc]⟩)
  | .ep ⟨true,n',q, .arr k U'⟩ i p,e,⟨g1,g2,g3⟩=>
    cases e
    exact .pure (hrun _ _ g3) (Gave.alias h ⟨g1,g2,by rw[Nat.add_assoc]⟩)
  | .cp U' y p,e,⟨b,off,row,g1,g2⟩=>
    cases e
    exact .pure (hrun _ _ g1) (Gave.alias h ⟨b,off,row,by rw[Nat.add_assoc],g2⟩)
end
end Go.TV
namespace Go.TV
section
variable {P:Program} {gv:Nat→Value} {n:Nat} {s s':St} {g:G} {a:Act} {w:World} {R:Type} {E:Env R} {o:Oper}
theorem Ezg: ∀ (T:Ty) (f d:Nat),azX T f=some d→ ∃U,czR T f=some U
 | .prod a b,0,d,h=>⟨a,rfl⟩
 | .prod a b,f+1,d,h=>by
   simp only[azX] at h
   split at h
   ·rename_i d' hd;exact Ezg b f d' hd
   ·cases h
 | .item,0,d,h=>⟨_,rfl⟩
 | .item,1,d,h=>⟨_,rfl⟩
 | .item,2,d,h=>⟨_,rfl⟩
 | .item,f+3,d,h=>by simp [azX,show Nat.ble (f+3) 2=false from rfl] at h
 | .unit,_,_,h=>by cases h
 | .int _,_,_,h=>by cases h
 | .bool,_,_,h=>by cases h
 | .str,_,_,h=>by cases h
 | .sl _,_,_,h=>by cases h
 | .arr _ _,_,_,h=>by cases h
theorem zzB {α:Type} {z:α} {xs:List α} {i:Int} (h0:0≤i) (h1:i<(xs.length:Int)):xs[i.toNat]?=some (rd z xs i):=by
 have:i.toNat<xs.length:=by omega
 simp [rd,List.getD_eq_getElem?_getD,List.getElem?_eq_getElem this]
theorem mzP {i n:Int} (h:inb i n=true):0≤i∧i<n:=by simpa [inb] using h
theorem Rel.elPlace (h:Rel E.gl gv n s g a w) {bx:Bool} {n0 q:Nat} {U:Ty} {xs:List U.den} {m:Mk} {i:Int} (hg:s.get ⟨bx,n0,q, .sl U⟩=some (xs,m)) (hm:ownM m=true) (h0:0≤i) (h1:i<(xs.length:Int)):
 ∃r c,g.cells ⟨bx,n0,q, .sl U⟩=[.slice (some ⟨r,0,none⟩) xs.length c]∧AV s g w (.ep ⟨bx,n0,q, .sl U⟩ i 0) (.pointer (some ⟨r,i.toNat*U.sz+0,none⟩)):=by
 obtain ⟨_,_,_,_,_,_,_,hrep⟩:=h.get hg
 cases m with
 |own pin me=>
  obtain ⟨A,c,e,hp,hh⟩:=hrep
  rcases hh with ⟨_,hx,_⟩| ⟨r,cells,el,fr,hA,_⟩
  ·subst hx;simp at h1;omega
  ·subst hA
   exact ⟨r,c,e,xs,_,r,_,c,hg,rfl,h0,h1,e,rfl⟩
 |_=>cases hm
theorem yzx (h:Rel E.gl gv n s g a w) (hgv: ∀i,a.eval (.global i)=gv i) {t:Nat} {T:Ty} {x ix:Operand} {k:IntKind} {i:Int} {ev:Ev} (hT:TyOk P T t) (hi:a.eval ix= .int k i) (hop:o.op= .indexAddr t x ix)
 (e:uzt s x (TV.opd E 0 s x) i T=some ev):Does P E gv n g a w o ev:=by
 have hx:=h.opF hgv 0 0 x
 obtain ⟨pa,cs,hr⟩:=hx.rv h
 have hrunS: ∀ (U:Ty) (ad:Addr) (N c:Nat),T= .sl U→0≤i→i<(N:Int)→a.eval x= .slice (some ad) N c→(execOp a.eval o).run P w= .ok (.value (.pointer (some (ad.add (i.toNat*U.sz))))) w:=by
  intro U ad N c hTe h0 h1 hv
  subst hTe
  simp only[TyOk] at hT
  obtain ⟨_,el,h2,h3⟩:=hT
  simp [execOp,hop,Instr.indexAt,hi,asIntOf,azg h2,hv,h0,h1,h3.b.run_sizeOf]
 unfold uzt at e
 generalize hW:TV.opd E 0 s x=W at*
 match W,e,hr with
 | .v (.sl U) m xs,e,hr=>
   cases hc:isTy T (.sl U)<;>simp only[hc,cond_false,cond_true] at e
   ·cases e
   have hTe:=bzD hc
   cases m with
   |sh=>
    cases e
    intro hb
    obtain ⟨h0,h1⟩:=mzP hb
    obtain ⟨⟨A,c,e1,e2,h3⟩,hv⟩:=hr
    obtain ⟨ad,row,hA,hs,hst,hl,hrow,hrep⟩:=h3 i.toNat _ (zzB (z:=U.zero) h0 (by simpa [len] using h1))
    obtain ⟨ab,ao,asp⟩:=ad
    simp only at hs hst hrow
    subst hs;subst hA
    have hv':a.eval x= .slice (some ⟨ab,ao,none⟩) (xs:List U.den).length c:=by rw[hv,e1];rfl
    refine ⟨_,w, .inl (hrunS U _ _ _ hTe h0 (by simpa [len] using h1) hv'),Gave.alias h ?_⟩
    rw[ezV]
    exact ⟨ab,ao+i.toNat*U.sz,row,rfl,hst,hl,hrow,hrep⟩
   |own pin me=>
    rcases hx with ⟨u,rfl,hu⟩| ⟨hx,_⟩
    ·cases e
     intro hb
     obtain ⟨h0,h1⟩:=mzP hb
     obtain ⟨r,c,h2,h3⟩:=h.elPlace (nzj hu.symm) rfl h0 (by simpa [len] using h1)
     have hcs:=h.tm u
     rw[←hu] at hcs
     have hv':a.eval (.tmp u)= .slice (some ⟨r,0,none⟩) (xs:List U.den).length c:=by
      rw[jz3 h hu.symm] at h2
      rw[Act.eval_tmp',hcs.2,h2];rfl
     refine ⟨_,w, .inl (hrunS U _ _ _ hTe h0 (by simpa [len] using h1) hv'),Gave.alias h ?_⟩
     rw[ezV,Nat.zero_add];exact h3
    ·cases x with
     |tmp u=>exact absurd rfl (hx u)
     |_=>cases e
   |_=>cases e
 | .ref ⟨bx,n',q, .sl U⟩,e,⟨hv,y,m,hg,ha,hs⟩=>
   cases hc:isTy T (.sl U)<;>simp only[hc,cond_false,cond_true] at e
   ·cases e
   have hTe:=bzD hc
   rw[hg] at e
   cases m with
   |own pin me=>
    cases e
    intro hb
    obtain ⟨h0,h1⟩:=mzP hb
    obtain ⟨r,c,h2,h3⟩:=h.elPlace hg rfl h0 (by simpa [len] using h1)
    have hv':a.eval x= .slice (some ⟨r,0,none⟩) (y:List U.den).length c:=by rw[hv,h2];rfl
    refine ⟨_,w, .inl (hrunS U _ _ _ hTe h0 (by simpa [len] using h1) hv'),Gave.alias h ?_⟩
    rw[ezV,Nat.zero_add];exact h3
   |_=>cases e
 | .cp U y p,e,⟨b,off,row,h1,h2,h3,h4,h5⟩=>
   cases T with
   |arr N U'=>
    cases hxs:getAt (.arr N U') U p y with
    |some xs=>
     simp only[hxs] at e
     cases e
     intro hb
     obtain ⟨h0,h6⟩:=mzP hb
     simp only[TyOk] at hT
     obtain ⟨_,el,h7,h8⟩:=hT
     have hrep:=Rep.getAt U p _ _ _ _ _ hxs h5
     rw[ezA] at hrep
     obtain ⟨e1,e2,h9⟩:=hrep
     have hfit:=azT _ _ _ _ hxs
     have hil:i.toNat<N:=by omega
     have h10:=h9 i.toNat _ (zzB (z:=U'.zero) h0 (by rw[e1];exact h6))
     have hrow:(((row.drop p).take (Ty.arr N U').sz).drop (i.toNat*U'.sz)).take U'.sz=(row.drop (p+i.toNat*U'.sz)).take U'.sz:=by
      refine kzW ?_
      have:=ezw (sz:=U'.sz) hil
      simp only[Ty.sz];exact this
     rw[hrow] at h10
     refine ⟨.pointer (some ⟨b,off+p+i.toNat*U'.sz,none⟩),w, .inl ?_,Gave.alias h ⟨b,off+(p+i.toNat*U'.sz),_,by rw[Nat.add_zero,Nat.add_assoc],h2,?_,h4.sub,h10⟩⟩
     ·simp [execOp,hop,Instr.indexAt,hi,asIntOf,azg h7,h1,Instr.sureAddr,h0,h6,h8.b.run_sizeOf,ezV]
     ·have:=Rep.length _ _ _ _ _ h10;exact this
    |none=>simp only[hxs] at e;cases e
   |_=>cases e
 | .box b p,e,hr=>
   cases T with
   |arr N U'=>
    cases e
    intro hb
    obtain ⟨h0,h6⟩:=mzP hb
    simp only[TyOk] at hT
    obtain ⟨_,el,h7,h8⟩:=hT
    have hv:a.eval x= .pointer (some ⟨g.φ b,p,none⟩):=hr
    refine ⟨.pointer (some ⟨g.φ b,p+i.toNat*U'.sz,none⟩),w, .inl ?_,Gave.alias h ⟨h0,h6,by rw[Nat.add_zero]⟩⟩
    simp [execOp,hop,Instr.indexAt,hi,asIntOf,azg h7,hv,Instr.sureAddr,h0,h6,h8.b.run_sizeOf,ezV]
   |_=>cases e
theorem Izy (h:Rel E.gl gv n s g a w) (hgv: ∀i,a.eval (.global i)=gv i) {t:Nat} {x ix:Operand} {ev:Ev} (hT: ∀T,E.tt t=some T→TyOk P T t) (hop:o.op= .index t x ix)
 (e:(match s.res (TV.opd E 0 s ix),s.res (TV.opd E 0 s x),E.tt t with
 | .v (.int _) _ i, .v .str _ a,some .str=>some (.chk (inb i (ssz a)) (.v (.int .u8) .sh (sat a i)) s)
 | .v (.int _) _ i, .v (.arr n t) .sh xs,some (.arr n' t')=>bif isTy (.arr n' t') (.arr n t) then some (.chk (inb i n) (.v t .sh (rd t.zero xs i)) s) else none
 |_,_,_=>none)=some ev):Does P E gv n g a w o ev:=by
 split at e
 ·rename_i hi hx ht
  cases e
  intro hb
  obtain ⟨h0,h1⟩:=mzP hb
  have hT':=hT _ ht
  simp only[TyOk] at hT'
  have e1:=h.int hgv hi
  have e2:=h.str hgv hx
  rename_i i _ y
  have hlt:i.toNat<y.size:=by simp only[ssz] at h1;omega
  refine ⟨_,w, .inl ?_,Gave.int h⟩
  have hget:y[i.toNat]?=some (y[i.toNat]'hlt):=by simp [hlt]
  simp [execOp,hop,Instr.index,e1,e2,asIntOf,azg hT'.2,h0,hget,sat,hlt]
 ·rename_i k m i N U xs N' U' hi hx ht
  cases hc:isTy (.arr N' U') (.arr N U)<;>simp only[hc,cond_false,cond_true] at e
  ·cases e
  have hTe:=bzD hc
  cases hTe
  cases e
  intro hb
  obtain ⟨h0,h1⟩:=mzP hb
  have hT':=hT _ ht
  simp only[TyOk] at hT'
  obtain ⟨_,el,h7,h8⟩:=hT'
  have e1:=h.int hgv hi
  obtain ⟨pa,cs,hr⟩:=h.opd' hgv 0 x
  obtain ⟨_,pa',cs',hrep,hv⟩:=h.res hr _ _ _ hx
  obtain ⟨e2,e3,h9⟩:=hrep
  have hil:i.toNat<N:=by omega
  have h10:=h9 i.toNat _ (zzB (z:=U.zero) h0 (by rw[e2];exact h1))
  have hp:(part el cs'.toArray (i.toNat*U.sz)).run P w=_:=h8.run_part (by rw[e3];exact ezw hil)
  refine ⟨_,w, .inl ?_,Gave.sh h h10 rfl⟩
  simp [execOp,hop,Instr.index,e1,hv,mkV,isAgg,asIntOf,azg h7,h0,h1,h8.b.run_sizeOf,hp]
 ·cases e
theorem Rel.boxRow (h:Rel E.gl gv n s g a w) {b o:Nat} {T:Ty} {y:T.den} {m:Mk} (hg:s.get ⟨true,b,o,T⟩=some (y,m)):gzo w (g.φ b) o (g.cells ⟨true,b,o,T⟩)∧(g.cells ⟨true,b,o,T⟩).length=T.sz:=by
 obtain ⟨T',M,x,hr,_,_,_,hrep⟩:=h.get hg
 obtain ⟨_,hb⟩:=h.rootval (p:=⟨true,b,o,T⟩) hr
 obtain ⟨_,cells,e,fr,h1,_,h2⟩:=hb rfl
 refine ⟨?_,Rep.length _ _ _ _ _ hrep⟩
 simp only[G.cells,G.rc,cond_true,←h2]
 exact zzD h1
theorem MzO (h:Rel E.gl gv n s g a w) (hgv: ∀i,a.eval (.global i)=gv i) {t:Nat} {T:Ty} {x:Operand} {ev:Ev} (hT:TyOk P T t) (hop:o.op= .load t x)
 (e:zzi s T (TV.opd E 0 s x)=some ev):Does P E gv n g a w o ev:=by
 obtain ⟨pa,cs,hr⟩:=h.opd' hgv 0 x
 have hrun: ∀b off row,a.eval x= .pointer (some ⟨b,off,none⟩)→row.length=T.sz→gzo w b off row→(execOp a.eval o).run P w= .ok (.value (mkV T row)) w:=by
  intro b off row hv hl hrow
  have:=hT.run_loadVar (w:=w) hl hrow (Oz0 T)
  simp [execOp,hop,Instr.loadAt,hv,Instr.sureAddr,this]
 unfold zzi at e
 generalize hW:TV.opd E 0 s x=W at*
 match W,e,hr with
 | .cp U y p,e,⟨b,off,row,h1,h2,h3,h4,h5⟩=>
   cases hy:getAt T U p y with
   |none=>simp only[hy] at e;cases e
   |some z=>
    simp only[hy] at e
    cases e
    have hrep:=Rep.getAt U p _ _ _ _ _ hy h5
    rw[ezA] at hrep
    exact .pure (hrun _ _ _ h1 (Rep.length _ _ _ _ _ hrep) h4.sub) (Gave.sh h hrep rfl)
 | .ep ⟨bx,n0,q, .sl U⟩ i p,e,⟨xs,m,r,N,c,g1,g2,g3,g4,g5,g6⟩=>
   simp only[g1] at e
   obtain ⟨_,_,_,_,_,_,_,hpl⟩:=h.get g1
   obtain ⟨hN,ho,cells,el,fr,h1,h2,h3,h4,h5⟩:=Rep.own_block hpl g2 g5
   have h6:=h5 i.toNat _ (zzB (z:=U.zero) g3 g4)
   cases hy:getAt T U p (rd U.zero xs i) with
   |none=>simp only[hy] at e;cases e
   |some z=>
    simp only[hy] at e
    have hrep:=Rep.getAt U p _ _ _ _ _ hy h6
    have hfit:=azT _ _ _ _ hy
    have hrow:(((cells.toList.drop (i.toNat*U.sz)).take U.sz).drop p).take T.sz=(cells.toList.drop (i.toNat*U.sz+p)).take T.sz:=kzW (by omega)
    rw[hrow] at hrep
    have hrun':=hrun _ _ _ g6 (Rep.length _ _ _ _ _ hrep) (zzD h1)
    cases hm:azM T U p m.e with
    |sh=>simp only[hm] at e;cases e;rw[hm] at hrep;exact .pure hrun' (Gave.sh h hrep rfl)
    |own pin me=>
     simp only[hm] at e;cases e
     exact .pure hrun' (Gave.alias h ⟨xs,m,r,N,c,cells,el,fr,g1,g2,g3,g4,g5,h1,rfl,by rw[hm];simp⟩)
    |no=>simp only[hm] at e;cases e
    |pr _ _=>simp only[hm] at e;cases e
 | .ep ⟨true,n0,q, .arr k U⟩ i p,e,⟨g1,g2,g3⟩=>
   cases hg:s.get ⟨true,n0,q, .arr k U⟩ with
   |none=>simp only[hg] at e;cases e
   |some z=>
    obtain ⟨xs,m⟩:=z
    simp only[hg] at e
    cases hy:getAt T U p (rd U.zero xs i) with
    |none=>simp only[hy] at e;cases e
    |some z=>
     simp only[hy] at e
     cases ha:m.all<;>simp only[ha,cond_false,cond_true] at e
     ·cases e
     cases e
     have hm:m≠ .no:=by rintro rfl;cases ha
     obtain ⟨_,_,_,_,_,_,_,hpl⟩:=h.get hg
     obtain ⟨hrow,hlen⟩:=h.boxRow hg
     obtain ⟨e1,e2,h9⟩:=Kn.out hm hpl
     have hil:i.toNat<k:=by omega
     have h6:=h9 i.toNat _ (zzB (z:=U.zero) g1 (by rw[e1];exact g2))
     have hrep:=Rep.getAt U p _ _ _ _ _ hy h6
     rw[ezA] at hrep
     have hfit:=azT _ _ _ _ hy
     have e3:((((g.cells ⟨true,n0,q, .arr k U⟩).drop (i.toNat*U.sz)).take U.sz).drop p).take T.sz=((g.cells ⟨true,n0,q, .arr k U⟩).drop (i.toNat*U.sz+p)).take T.sz:=kzW (by omega)
     rw[e3] at hrep
     exact .pure (hrun _ _ _ g3 (Rep.length _ _ _ _ _ hrep) (by rw[Nat.add_assoc];exact hrow.sub)) (Gave.sh h hrep rfl)
 | .box b p,e,hr=>
   cases hg:s.get ⟨true,b,p,T⟩ with
   |none=>simp only[hg] at e;cases e
   |some z=>
    obtain ⟨y,m⟩:=z
    simp only[hg] at e
    obtain ⟨_,_,_,_,_,_,_,hpl⟩:=h.get hg
    obtain ⟨hrow,hlen⟩:=h.boxRow hg
    have hrun':=hrun _ _ _ hr hlen hrow
    cases m with
    |sh=>cases e;exact .pure hrun' (Gave.sh h hpl rfl)
    |no=>cases e
    |own q me=>
     cases ha:(Mk.own q me).all<;>simp only[ha,cond_false,cond_true] at e<;>cases e
     exact .pure hrun' (Gave.alias h ⟨rfl,y,_,hg,ha,by simp⟩)
    |pr q me=>
     cases ha:(Mk.pr q me).all<;>simp only[ha,cond_false,cond_true] at e<;>cases e
     exact .pure hrun' (Gave.alias h ⟨rfl,y,_,hg,ha,by simp⟩)
end
end Go.TV
namespace Go.TV
section
variable {P:Program} {gv:Nat→Value} {n:Nat} {s s':St} {g:G} {a:Act} {w:World} {R:Type} {E:Env R} {o:Oper}
theorem RepI.cellsOk {w:World} {ω:azw} {x:ItemT} {cs:List Value} (h:RepI w ω x cs): ∀v∈cs,nzG v:=by
 cases h
 intro v hv
 simp only[List.mem_cons,List.not_mem_nil,or_false] at hv
 rcases hv with rfl|rfl|rfl<;>rfl
theorem Rep.cellsOk {w:World} {ω:azw} {η:Pins}: ∀ (t:Ty) (pa:Path) (m:Mk) (x:t.den) (cs:List Value),m.all=true→Rep w ω η t pa m x cs→ ∀v∈cs,nzG v
 | .int k,pa,m,x,cs,ha,h=>by
   have:cs=[.int k x]:=Kn.out (by rintro rfl;cases ha) h
   subst this;intro v hv;simp at hv;subst hv;rfl
 | .bool,pa,m,x,cs,ha,h=>by
   have:cs=[.bool x]:=Kn.out (by rintro rfl;cases ha) h
   subst this;intro v hv;simp at hv;subst hv;rfl
 | .str,pa,m,x,cs,ha,h=>by
   have:cs=[.string x]:=Kn.out (by rintro rfl;cases ha) h
   subst this;intro v hv;simp at hv;subst hv;rfl
 | .unit,pa,m,x,cs,ha,h=>by
   have:cs=[]:=h
   subst this;simp
 | .prod a b,pa,m,x,cs,ha,h=>by
   obtain ⟨hp,c1,c2,e,h1,h2⟩:=Kn.out (by rintro rfl;cases ha) h
   have hl:m.l.all=true∧m.r.all=true:=by
    cases m with
    |sh=>exact ⟨rfl,rfl⟩
    |pr p q=>simp only[Mk.all] at ha;cases hp:p.all<;>simp_all [Mk.l,Mk.r]
    |own _ _=>cases hp
    |no=>cases ha
   subst e
   intro v hv
   rcases List.mem_append.1 hv with hv|hv
   ·exact Rep.cellsOk a _ _ _ _ hl.1 h1 v hv
   ·exact Rep.cellsOk b _ _ _ _ hl.2 h2 v hv
 | .item,pa,m,x,cs,ha,h=>by
   cases m with
   |no=>cases ha
   |sh=>exact RepI.cellsOk h
   |own p me=>
    obtain ⟨A,c,e,_⟩:=h
    subst e
    intro v hv
    simp only[List.mem_cons,List.not_mem_nil,or_false] at hv
    rcases hv with rfl|rfl|rfl<;>rfl
   |pr p q=>
    have hq:q≠ .no:=by rintro rfl;simp only[Mk.all] at ha;cases hp:p.all<;>simp_all
    have h':bzq w ω η (.pr p q) pa x cs:=h
    rw[bzq.pr_known hq] at h'
    exact RepI.cellsOk h'
 | .arr n t,pa,m,xs,cs,ha,h=>by
   obtain ⟨e1,e2,h3⟩:=Kn.out (by rintro rfl;cases ha) h
   intro v hv
   obtain ⟨j,hj⟩:=List.getElem?_of_mem hv
   have hjl:j<n*t.sz:=by
    rw[←e2]
    rcases Nat.lt_or_ge j cs.length with h|h
    ·exact h
    ·rw[List.getElem?_eq_none h] at hj;cases hj
   have hsz:0<t.sz:=by
    rcases Nat.eq_zero_or_pos t.sz with h|h
    ·rw[h] at hjl;simp at hjl
    ·exact h
   have hd:j/t.sz<n:=(Nat.div_lt_iff_lt_mul hsz).2 hjl
   have:=Rep.cellsOk t _ _ _ _ rfl (h3 (j/t.sz) _ (List.getElem?_eq_getElem (by omega))) v
   refine this (List.mem_of_getElem? (i:=j % t.sz) ?_)
   rw[List.getElem?_take_of_lt (Nat.mod_lt _ hsz),List.getElem?_drop]
   rw[←hj];congr 1
   have:=Nat.div_add_mod j t.sz
   rw[Nat.mul_comm] at this;exact this
 | .sl t,pa,m,xs,cs,ha,h=>by
   have: ∃A N c,cs=[.slice A N c]:=by
    cases m with
    |no=>cases ha
    |own p me=>obtain ⟨A,c,e,_⟩:=h;exact ⟨_,_,_,e⟩
    |sh=>obtain ⟨A,c,e,_⟩:=h;exact ⟨_,_,_,e⟩
    |pr p q=>obtain ⟨A,c,e,_⟩:=h;exact ⟨_,_,_,e⟩
   obtain ⟨A,N,c,e⟩:=this
   subst e;intro v hv;simp at hv;subst hv;rfl
theorem Nzn {v:Value} (h:nzG v):v.cells= #[v]:=by cases v<;>first|rfl|cases h
theorem ezP {T:Ty} {cs:List Value} (hl:cs.length=T.sz) (h: ∀v∈cs,nzG v):(mkV T cs).cells=cs.toArray:=by
 unfold mkV
 split
 ·rfl
 ·rename_i ha
  rcases Oz0 T with hs|hs
  ·match cs,hl,h with
   | [v],_,h=>exact Nzn (h v (by simp))
   | [],hl,_=>simp at hl;omega
   |_::_::_,hl,_=>simp at hl;omega
  ·exact absurd hs ha
theorem tzV {t:Ty}: ∀ (T:Ty) (o:Nat),azs t .sh T o .sh= .sh
 | .prod a b,o=>by
   simp only[azs]
   cases (Nat.beq o 0&&isTy (.prod a b) t)
   ·simp only[cond_false,Mk.l,Mk.r]
    cases Nat.ble (o+1) a.sz
    ·simp only[cond_false,tzV b];rfl
    ·simp only[cond_true,tzV a];rfl
   ·rfl
 | .item,o=>by
   simp only[azs]
   cases isTy .item t
   ·simp only[cond_false]
    match o with
    |0=>rfl
    |1=>rfl
    |2=>rfl
    |k+3=>rfl
   ·rfl
 | .int _,_=>rfl
 | .bool,_=>rfl
 | .str,_=>rfl
 | .unit,_=>rfl
 | .sl _,_=>rfl
 | .arr _ _,_=>rfl
theorem Bz8 {α:Type} {l row:List α} {b n o:Nat} (h:o+row.length≤n) (hl:b+n≤l.length):bzC l b (bzC ((l.drop b).take n) o row)=bzC l (b+o) row:=by
 have hs:((l.drop b).take n).length=n:=by simp only[List.length_take,List.length_drop];omega
 have hs2:(bzC ((l.drop b).take n) o row).length=n:=by rw[ezf (by omega),hs]
 refine List.ext_getElem? fun i=>?_
 have e1:=czP (l:=l) (row:=bzC ((l.drop b).take n) o row) (o:=b) (by omega) i
 have e2:=czP (l:=l) (row:=row) (o:=b+o) (by omega) i
 have e3:=czP (l:=(l.drop b).take n) (row:=row) (o:=o) (by omega) (i-b)
 rw[e1,e2,hs2]
 by_cases h1:i<b
 ·rw[if_pos h1,if_pos (by omega)]
 ·rw[if_neg h1]
  by_cases h2:i<b+n
  ·rw[if_pos h2,e3]
   by_cases h3:i-b<o
   ·rw[if_pos h3,if_pos (by omega),List.getElem?_take_of_lt (by omega),List.getElem?_drop];congr 1;omega
   ·rw[if_neg h3]
    by_cases h4:i-b<o+row.length
    ·rw[if_pos h4,if_neg (by omega),if_pos (by omega)];congr 1;omega
    ·rw[if_neg h4,if_neg (by omega),if_neg (by omega),List.getElem?_take_of_lt (by omega),List.getElem?_drop];congr 1;omega
  ·rw[if_neg h2,if_neg (by omega),if_neg (by omega)]
theorem lzT {p:Pl} {m:Mk} {y:p.t.den} {s1:St} (h:s.setPl p m y=some s1): ∃T M x z,s.root p.bx p.n= .v T M x∧setAt p.t y T p.o x=some z∧s1=s.setRoot p.bx p.n (.v T (azs p.t m T p.o M) z):=by
 unfold St.setPl at h
 split at h
 ·rename_i T M x hr
  split at h
  ·rename_i z hz;cases h;exact ⟨T,M,x,z,hr,hz,rfl⟩
  ·cases h
 ·cases h
theorem Rel.cells_took {s0:St} {g0 g1:G} {k:Nat} {T:Ty} {m:Mk} {y:T.den} {v:Value} (t:Took E gv n s0 s' g0 g1 a w k T m y v) {p:Pl} {z:p.t.den×Mk} (hg:s0.get p=some z):g1.cells p=g0.cells p:=by
 obtain ⟨T',M,x,hr,_⟩:=fzZ hg
 simp only[G.cells,G.rc,t.bc]
 cases hb:p.bx with
 |true=>rfl
 |false=>rw[hb] at hr;simp only[cond_false,t.tc _ _ _ _ (by simpa [St.root] using hr)]
theorem Hz9 (h:Rel E.gl gv n s g a w) (hgv: ∀i,a.eval (.global i)=gv i) {t:Nat} {T:Ty} {x y:Operand} {ev:Ev} (hT:TyOk P T t) (hop:o.op= .store t x y)
 (e:Fzc E s T (TV.opd E 0 s x) y t=some ev):Does P E gv n g a w o ev:=by
 obtain ⟨pa,cs,hr⟩:=h.opd' hgv 0 x
 unfold Fzc at e
 split at e
 case h_2=>cases e
 rename_i yv m s1 he
 obtain ⟨ha,g1,ht⟩:=h.grabT hgv 0 he
 have hmno:m≠ .no:=by rintro rfl;cases ha
 obtain ⟨row,hrep,hv⟩:=ht.rep
 have hrl:=Rep.length _ _ _ _ _ hrep
 have hok:=Rep.cellsOk _ _ _ _ _ ha hrep
 have hrun: ∀b off cells el fr,a.eval x= .pointer (some ⟨b,off,none⟩)→w.heap[b]?=some (.cells cells el fr)→bzg fr cells.size→off+row.length≤cells.size→
  Runs P o a w undef (kzV w b off row):=by
  intro b off cells el fr hx hh hu hl
  right
  have hst:=lzg (P:=P) row 0 w cells el fr hh hu (by simpa using hl) hok
  simp only[Nat.add_zero] at hst
  simp [execOp,hop,Instr.storeAt,hx,Instr.sureAddr,storeVar,hv,ezP hrl hok,hT.b.run_sizeOf,hrl,hst]
 have hfin: ∀ (s2:St) (g2:G) (w':World),Rel E.gl gv n s2 g2 a w'→g2.η=g1.η→Fl w w' g1.ω g2.ω 0→w'.os=w.os→w'.tape=w.tape→w'.output=w.output→w'.heap.size=w.heap.size→Gave E gv n a g w .junk s2 undef w':=by
  intro s2 g2 w' h2 hη hf h3 h4 h5 h6
  exact ⟨g2,[],0,h2,hη.trans ht.η,trivial,h3,h4,h5,by rw[h6];exact Nat.le_refl _,ht.fl.1.trans hf.1,ht.fl.far.trans hf.far⟩
 generalize hW:TV.opd E 0 s x=W at*
 match W,e,hr with
 | .box b p,e,hr=>
   simp only at e
   split at e
   ·rename_i s2 hs2
    cases e
    obtain ⟨T',M,x0,z,h1,h2,rfl⟩:=lzT hs2
    obtain ⟨y0,hy0⟩:=dzw h2
    have hfit:=azT _ _ _ _ hy0
    obtain ⟨_,hb⟩:=ht.rel.rootval (p:=⟨true,b,p,T⟩) h1
    obtain ⟨h3,cells,el,fr,h4,h5,h6⟩:=hb rfl
    obtain ⟨T2,M2,x2,hr2,_,_,h7,_⟩:=ht.rel.get (Dzm (q:=⟨true,b,p,T⟩) h1 hy0)
    rw[h1] at hr2
    cases hr2
    have hlen:(g1.bc b).length=T'.sz:=Rep.length _ _ _ _ _ h7
    have hl:p+row.length≤cells.size:=by
     simp only at h6 hfit
     rw[←Array.length_toList,h6];omega
    obtain ⟨⟨cells',h8,h9⟩,h10,h11,h12,h13,h14⟩:=jzJ row p w cells el fr h4 hl
    have hx:a.eval x= .pointer (some ⟨g1.φ b,p,none⟩):=by rw[ht.φ];exact hr
    obtain ⟨g2,h15,h16,h17,h18⟩:=ht.rel.setBox (p:=⟨true,b,p,T⟩) rfl h1 h2 hmno hrep h4 h8 h9 h10
    exact ⟨undef,_,hrun _ _ _ _ _ hx h4 h5 hl,hfin _ _ _ h15 h17 h18 h12 h13 h14 h11⟩
   ·cases e
 | .ep ⟨bx,n0,q, .sl U⟩ i p,e,⟨xs,M,r,N,c,g1',g2,g3,g4,g5,g6⟩=>
   simp only at e
   split at e
   ·rename_i xs1 pin me hget
    split at e
    ·rename_i z hz
     cases hc:(azs T m U p me).eqb me<;>simp only[hc,cond_false,cond_true] at e
     ·cases e
     split at e
     ·rename_i s2 hs2
      cases e
      obtain ⟨T',M',x0,z',h1,h2,rfl⟩:=lzT hs2
      have hcell:g1.cells ⟨bx,n0,q, .sl U⟩=[.slice (some ⟨r,0,none⟩) N c]:=by rw[Rel.cells_took ht g1'];exact g5
      obtain ⟨_,_,_,_,_,_,_,hpl⟩:=ht.rel.get hget
      obtain ⟨_,_,_,_,_,_,_,hpl0⟩:=h.get g1'
      obtain ⟨hN0,_⟩:=Rep.own_block hpl0 g2 g5
      obtain ⟨hN,ho,cells,el,fr,h3,h4,h5,h6,h7⟩:=Rep.own_block hpl rfl hcell
      have hi1:i<(xs1.length:Int):=by simp only[lenT] at g4;omega
      obtain ⟨y0,hy0⟩:=dzw hz
      have hfit:=azT _ _ _ _ hy0
      have hl:i.toNat*U.sz+p+row.length≤cells.size:=by
       have h8:i.toNat<c:=by omega
       have:=ezw (sz:=U.sz) h8
       omega
      obtain ⟨⟨cells',h8,h9⟩,h10,h11,h12,h13,h14⟩:=jzJ row _ w cells el fr h3 hl
      obtain ⟨ω',h15,h16⟩:=ht.rel.setEl hget rfl g3 hi1 hz (Mk.eqb_eq hc) hmno hrep h1 h2 hcell h3 h8 h9 h10
      exact ⟨undef,_,hrun _ _ _ _ _ g6 h3 h5 hl,hfin _ _ _ h15 rfl h16 h12 h13 h14 h11⟩
     ·cases e
    ·cases e
   ·cases e
 | .ep ⟨true,n0,q, .arr k U⟩ i p,ee,⟨g1',g2,g3⟩=>
   simp only at ee
   split at ee
   ·rename_i xs M hget
    split at ee
    ·rename_i z hz
     cases hc:(m.isSh&&M.all)<;>simp only[hc,cond_false,cond_true] at ee
     ·cases ee
     simp only[Bool.and_eq_true] at hc
     have hms:m= .sh:=by cases m<;>first|rfl|exact absurd hc.1 (by simp [Mk.isSh])
     subst hms
     have hM:M≠ .no:=by rintro rfl;exact absurd hc.2 (by simp [Mk.all])
     split at ee
     ·rename_i s2 hs2
      cases ee
      obtain ⟨T',M',x0,z',h1,h2,rfl⟩:=lzT hs2
      obtain ⟨T2,M2,x2,hr2,hy2,_,h7,hpl⟩:=ht.rel.get hget
      rw[h1] at hr2
      cases hr2
      obtain ⟨_,hb⟩:=ht.rel.rootval (p:=⟨true,n0,q, .arr k U⟩) h1
      obtain ⟨h3,cells,el,fr,h4,h5,h6⟩:=hb rfl
      have hlen:(g1.bc n0).length=T'.sz:=Rep.length _ _ _ _ _ h7
      have hfitq:=azT _ _ _ _ hy2
      obtain ⟨e1,e2,h8⟩:=Kn.out hM hpl
      obtain ⟨y0,hy0⟩:=dzw hz
      have hfit:=azT _ _ _ _ hy0
      have hil:i.toNat<k:=by omega
      have hmr:=ezw (sz:=U.sz) hil
      have hqs:(Ty.arr k U).sz=k*U.sz:=rfl
      simp only at h6 hfitq
      have hcs:cells.toList.length=cells.size:=Array.length_toList
      have hcl:cells.size=T'.sz:=by rw[←hcs,h6];exact hlen
      have hac:g1.cells ⟨true,n0,q, .arr k U⟩=(cells.toList.drop q).take (k*U.sz):=by simp only[G.cells,G.rc,cond_true,h6];rfl
      have hl:q+i.toNat*U.sz+p+row.length≤cells.size:=by omega
      obtain ⟨⟨cells',h9,h10⟩,h11,h12,h13,h14,h15⟩:=jzJ row (q+i.toNat*U.sz+p) w cells el fr h4 hl
      have hrow':Rep w g1.ω g1.η (.arr k U) [3,0] M (upd xs i z) (bzC (g1.cells ⟨true,n0,q, .arr k U⟩) (i.toNat*U.sz+p) row):=by
       refine Kn.mk (by rw[ezf (by omega)];exact e2) fun _=>⟨by rw[fzv];exact e1,by rw[ezf (by omega)];exact e2,fun j v hj=>?_⟩
       rcases Gzx hj with ⟨rfl,rfl,hjl⟩| ⟨hne,hj'⟩
       ·have hxi:=h8 i.toNat _ (zzB (z:=U.zero) g1' (by rw[e1];exact g2))
        have:=Rep.setAt (m':= .sh) (by simp) U p _ _ _ _ _ hz hxi (Rep.sh_mono (azJ.refl _ _) _ _ _ _ _ hrep)
        rw[tzV] at this
        rw[Ezi (by omega) (by omega)]
        simp only[bzC,hrl]
        exact this
       ·have hjl:j<k:=by
         rw[←e1]
         rcases Nat.lt_or_ge j (xs:List U.den).length with h|h
         ·exact h
         ·rw[List.getElem?_eq_none h] at hj';cases hj'
        have:=h8 j v hj'
        rw[oz8 (by omega)]
        ·exact this
        ·rcases Nat.lt_or_gt_of_ne hne with hlt|hgt
         ·right;have:=ezw (sz:=U.sz) hlt;omega
         ·left;have:=ezw (sz:=U.sz) hgt;omega
      have h10':cells'.toList=bzC cells.toList q (bzC (g1.cells ⟨true,n0,q, .arr k U⟩) (i.toNat*U.sz+p) row):=by
       rw[h10,hac,Bz8 (by omega) (by omega),Nat.add_assoc]
      have hx:a.eval x= .pointer (some ⟨g1.φ n0,q+i.toNat*U.sz+p,none⟩):=by rw[ht.φ];exact g3
      obtain ⟨g2',h16,h17,h18,h19⟩:=ht.rel.setBox (p:=⟨true,n0,q, .arr k U⟩) rfl h1 h2 hM hrow' h4 h9 h10' h11
      exact ⟨undef,_,hrun _ _ _ _ _ hx h4 h5 hl,hfin _ _ _ h16 h18 h19 h13 h14 h15 h12⟩
     ·cases ee
    ·cases ee
   ·cases ee
end
end Go.TV
namespace Go.TV
section
variable {P:Program} {gv:Nat→Value} {n:Nat} {s s':St} {g:G} {a:Act} {w:World} {R:Type} {E:Env R} {o:Oper}
theorem mzE {α:Type} {l:List α} {sz:Nat} (hl:l.length=sz): ∀ (n i:Nat),i<n→(((List.replicate n l).flatten.drop (i*sz)).take sz)=l
 |n+1,0,_=>by simp [List.replicate_succ,←hl]
 |n+1,i+1,h=>by
  have:(i+1)*sz=sz+i*sz:=by rw[Nat.add_mul,Nat.one_mul,Nat.add_comm]
  rw[List.replicate_succ,List.flatten_cons,this,←List.drop_drop,List.drop_append_of_le_length (by omega),←hl,List.drop_length,List.nil_append,hl]
  exact mzE hl n i (by omega)
theorem Rep.zeroSh {w:World} {ω:azw} {η:Pins}: ∀ (t:Ty) (pa:Path),Rep w ω η t pa .sh t.zero (azO t)∧(azO t).length=t.sz
 | .int k,_=>⟨rfl,rfl⟩
 | .bool,_=>⟨rfl,rfl⟩
 | .str,_=>⟨rfl,rfl⟩
 | .unit,_=>⟨rfl,rfl⟩
 | .prod a b,pa=>by
   have h1:=Rep.zeroSh (w:=w) (ω:=ω) (η:=η) a (pa++[0])
   have h2:=Rep.zeroSh (w:=w) (ω:=ω) (η:=η) b (pa++[1])
   exact ⟨Rep.pair h1.1 h2.1,by simp [azO,Ty.sz,h1.2,h2.2]⟩
 | .item,_=>⟨RepI.mk false ⟨#[]⟩ [] none 0 (fun _=>default) (fun _=>[]) (by simp) (fun i hi=>by simp at hi) (fun i hi=>by simp at hi),rfl⟩
 | .sl t,_=>⟨⟨none,0,rfl,by simp [Ty.zero],fun i x hx=>by simp [Ty.zero] at hx⟩,rfl⟩
 | .arr n t,_=>by
   have h1:=Rep.zeroSh (w:=w) (ω:=ω) (η:=η) t []
   have hl:((List.replicate n (azO t)).flatten).length=n*t.sz:=by simp [List.length_flatten,h1.2]
   refine ⟨⟨by simp [Ty.zero],hl,fun i x hx=>?_⟩,hl⟩
   simp only[Ty.zero,List.getElem?_replicate] at hx
   split at hx
   ·cases hx
    rw[azO,mzE h1.2 n i (by assumption)]
    exact h1.1
   ·cases hx
theorem Rep.zero {w:World} {ω:azw} {η:Pins}: ∀ (t:Ty) (pa:Path),Rep w ω η t pa t.full t.zero (azO t)
 | .int k,_=>rfl
 | .bool,_=>rfl
 | .str,_=>rfl
 | .unit,_=>rfl
 | .prod a b,pa=>Rep.pair (Rep.zero a _) (Rep.zero b _)
 | .item,_=>⟨none,0,rfl,fun h=>absurd rfl h, .inl ⟨rfl,rfl,rfl⟩⟩
 | .sl t,_=>⟨none,0,rfl,fun h=>absurd rfl h, .inl ⟨rfl,rfl,rfl⟩⟩
 | .arr n t,pa=>(Rep.zeroSh (.arr n t) pa).1
theorem pzA: ∀ (t:Ty),t.full.all=true
 | .int k=>rfl
 | .bool=>rfl
 | .str=>rfl
 | .unit=>rfl
 | .prod a b=>by
   simp only[Ty.full]
   have h1:=pzA a
   have h2:=pzA b
   cases ha:a.full<;>cases hb:b.full<;>simp_all [Mk.mkpr,Mk.all]
 | .item=>rfl
 | .sl t=>pzA t
 | .arr n t=>rfl
theorem mzs (m:Nat):bzg (0,0) m:=by intro i _ h;simp at h
theorem xz5 (h:Rel E.gl gv n s g a w) {T:Ty} {t d:Nat} {m:Mk} {x:T.den} {v:Value} {s1:St} {g1:G} (ht:Took E gv n s s1 g g1 a w 0 T m x v) (ha:m.all=true)
 (hrun:(execOp a.eval o).run P w=((newVar t v).run P w).andThen fun ad w'=> .ok (.value (.pointer (some ad))) w'):Does P E gv n g a w o (.ok (.box d 0) (s1.new d (.v T m x))):=by
 obtain ⟨cs,hr,hv⟩:=ht.rep
 have hok:=Rep.cellsOk _ _ _ _ _ ha hr
 have hl:=Rep.length _ _ _ _ _ hr
 have hc:=ezP hl hok
 obtain ⟨g',h1,h2,h3,h4⟩:=ht.rel.new (d:=d) (w':={w with heap:=w.heap.push (.cells cs.toArray t)}) hr (by simp) (mzs _) rfl
 refine ⟨.pointer (some ⟨w.heap.size,0,none⟩),{w with heap:=w.heap.push (.cells cs.toArray t)}, .inl ?_,g',[],0,h1,h3.trans ht.η,?_,⟨rfl,rfl,rfl,by simp,ht.fl.1.trans h4.1,ht.fl.far.trans h4.far⟩⟩
 ·rw[hrun];simp [newVar,newRow,hv,hc]
 ·show Value.pointer _=Value.pointer _
  rw[h2]
theorem JzF (h:Rel E.gl gv n s g a w) {t d:Nat} {T:Ty} (hT:TyOk P T t) (hop:o.op= .alloc t):Does P E gv n g a w o (.ok (.box d 0) (s.new d (.v T T.full T.zero))):=by
 refine xz5 (t:=t) (v:=mkV T (azO T)) h ⟨h,rfl,rfl,Fl.refl _ _ _,⟨_,Rep.zero T _,rfl⟩,fun _ _ _ _ _=>rfl,rfl⟩ (pzA T) ?_
 simp [execOp,hop,Instr.alloc,hT.b.run_zero]
theorem OzQ (h:Rel E.gl gv n s g a w) (hgv: ∀i,a.eval (.global i)=gv i) {t d:Nat} {T:Ty} {x:Operand} {ev:Ev} (hop:o.op= .box t x)
 (e:(match grabT E T s x t with|some (a,m,s)=>some (Ev.ok (.box d 0) (s.new d (.v T m a)))|none=>none)=some ev):Does P E gv n g a w o ev:=by
 split at e
 ·rename_i y m s1 he
  cases e
  obtain ⟨ha,g1,ht⟩:=h.grabT hgv 0 he
  exact xz5 (t:=t) h ht ha (by simp [execOp,hop,Instr.box])
 ·cases e
theorem Nzq {t ty:Nat} {T:Ty} (hT:TyOk P T t) {x:Value} {N:Nat} (h:(∃U A c,T= .sl U∧x= .slice A N c)∨(T= .str∧ ∃y:ByteArray,x= .string y∧N=y.size)) {rest:List Nat}:
 (Builtin.len_ ⟨t::rest⟩ ty #[x]).run P w= .ok (.int .i64 N) w:=by
 rcases h with ⟨U,A,c,rfl,rfl⟩| ⟨rfl,y,rfl,rfl⟩
 ·simp only[TyOk] at hT
  obtain ⟨_,e,h1,_⟩:=hT
  simp [Builtin.len_,azg h1,goInt]
 ·simp only[TyOk] at hT
  simp [Builtin.len_,azg hT.2,goInt]
theorem szR {w:World} {ω:azw} {η:Pins} {U:Ty} {pa:Path} {m:Mk} {xs:List U.den} {cs:List Value} (h:Rep w ω η (.sl U) pa m xs cs) (hm:m≠ .no): ∃A c,cs=[.slice A xs.length c]:=by
 cases m with
 |no=>exact absurd rfl hm
 |own p me=>obtain ⟨A,c,e,_⟩:=h;exact ⟨_,_,e⟩
 |sh=>obtain ⟨A,c,e,_⟩:=h;exact ⟨_,_,e⟩
 |pr p q=>obtain ⟨A,c,e,_⟩:=h;exact ⟨_,_,e⟩
theorem kzR {c:Call} {b:Builtin} {xs:List Operand} (hop:o.op= .call c) (hc:c.callee= .builtin b) (hx:c.args.toList=xs) (hb: ∀ty cs args,builtin b c.argTypes ty cs args=(do pure (.value (←(match b with| .len=>Builtin.len_ c.argTypes ty args| .min=>Builtin.min_ c.argTypes ty args| .max=>Builtin.max_ c.argTypes ty args| .append=>Builtin.append_ c.argTypes ty args| .copy=>Builtin.copy_ c.argTypes ty args|_=>stuck ""))))):
 (execOp a.eval o).run P w=((match b with| .len=>Builtin.len_ c.argTypes o.type ⟨xs.map a.eval⟩| .min=>Builtin.min_ c.argTypes o.type ⟨xs.map a.eval⟩| .max=>Builtin.max_ c.argTypes o.type ⟨xs.map a.eval⟩| .append=>Builtin.append_ c.argTypes o.type ⟨xs.map a.eval⟩| .copy=>Builtin.copy_ c.argTypes o.type ⟨xs.map a.eval⟩|_=>stuck "").run P w).andThen fun v w'=> .ok (.value v) w':=by
 have:c.args.map a.eval=⟨xs.map a.eval⟩:=by
  rw[←hx]
  apply Array.toList_inj.1
  rw[Array.toList_map]
 simp [execOp,hop,resolve,hc,invoke,hb,this]
theorem NzS (h:Rel E.gl gv n s g a w) (hgv: ∀i,a.eval (.global i)=gv i) (hT: ∀t T,E.tt t=some T→TyOk P T t) {c:Call} {x:Operand} {ev:Ev} (hop:o.op= .call c) (hc:c.callee= .builtin .len) (hx:c.args.toList=[x])
 (e:(match c.argTypes.toList with
 | []=>none
 |t::_=>match E.tt t,s.res (TV.opd E 0 s x) with
  |some (.sl _), .v (.sl _) _ xs=>some (Ev.ok (.v (.int .i64) .sh (len xs)) s)
  |some .str, .v .str _ a=>some (.ok (.v (.int .i64) .sh (ssz a)) s)
  |_,_=>none)=some ev):Does P E gv n g a w o ev:=by
 have hrun:=kzR (P:=P) (a:=a) (w:=w) hop hc hx (fun _ _ _=>rfl)
 simp only[List.map_cons,List.map_nil] at hrun
 cases hts:c.argTypes.toList with
 |nil=>rw[hts] at e;cases e
 |cons t rest=>
  have hat:c.argTypes=⟨t::rest⟩:=by rw[←hts]
  rw[hts] at e
  simp only at e
  split at e
  ·rename_i U U' m xs ht hr
   cases e
   obtain ⟨pa,cs,hrv⟩:=h.opd' hgv 0 x
   obtain ⟨hm,pa',cs',hrep,hv⟩:=h.res hrv _ _ _ hr
   obtain ⟨A,cc,hcs⟩:=szR hrep hm
   refine .pure (v:= .int .i64 (len xs)) ?_ (Gave.int h)
   rw[hrun,hat,Nzq (hT _ _ ht) (.inl ⟨U,A,cc,rfl,by rw[hv,hcs];rfl⟩)]
   rfl
  ·rename_i m y ht hr
   cases e
   refine .pure (v:= .int .i64 (ssz y)) ?_ (Gave.int h)
   rw[hrun,hat,Nzq (hT _ _ ht) (.inr ⟨rfl,y,h.str hgv hr,rfl⟩)]
   rfl
  ·cases e
theorem wz0 (h:Rel E.gl gv n s g a w) (hgv: ∀i,a.eval (.global i)=gv i) {c:Call} {x y:Operand} {b:Bool} {ev:Ev} (hop:o.op= .call c) (hc:c.callee= .builtin (if b then .min else .max)) (hx:c.args.toList=[x,y])
 (e:(match s.res (TV.opd E 0 s x),s.res (TV.opd E 0 s y) with
 | .v (.int k) _ a, .v (.int _) _ c=>some (Ev.ok (.v (.int k) .sh (if b then imin a c else imax a c)) s)
 |_,_=>none)=some ev):Does P E gv n g a w o ev:=by
 split at e
 ·rename_i k m p k' m' q h1 h2
  cases e
  have e1:=h.int hgv h1
  have e2:=h.int hgv h2
  cases b
  ·have hrun:=kzR (P:=P) (a:=a) (w:=w) hop (b:= .max) hc hx (fun _ _ _=>rfl)
   refine .pure ?_ (Gave.int h)
   rw[hrun]
   simp [Builtin.max_,e1,e2,Builtin.max2,imax]
  ·have hrun:=kzR (P:=P) (a:=a) (w:=w) hop (b:= .min) hc hx (fun _ _ _=>rfl)
   refine .pure ?_ (Gave.int h)
   rw[hrun]
   simp [Builtin.min_,e1,e2,Builtin.min2,imin]
 ·cases e
end
end Go.TV
namespace Go.TV
section
variable {P:Program} {gv:Nat→Value} {n:Nat} {s s':St} {g:G} {a:Act} {w w':World} {R:Type} {E:Env R} {o:Oper}
def own1 (w:World) (ω:azw) (pa:Path):azw:=fun b=>if b=w.heap.size then some pa else ω b
theorem GzT {ω:azw} {pa:Path} {b:Nat} (h:b<w.heap.size):own1 w ω pa b=ω b:=by simp only[own1];rw[if_neg (by omega)]
theorem OzO {ω:azw} {pa:Path}:own1 w ω pa w.heap.size=some pa:=by simp [own1]
theorem Rel.fresh (h:Rel E.gl gv n s g a w) {pa:Path} {ob:Obj} (hw:w'.heap=w.heap.push ob):
 Rel E.gl gv n s {g with ω:=own1 w g.ω pa} a w'∧Kept w w' g.ω (own1 w g.ω pa):=by
 have hold: ∀b,b<w.heap.size→w'.heap[b]?=w.heap[b]?:=fun b hb=>by rw[hw,Array.getElem?_push,if_neg (by omega)]
 have hk:Kept w w' g.ω (own1 w g.ω pa):=⟨fun b hb hq=>⟨by rw[GzT hb];exact hq,hold b hb⟩,fun b p hq=>by
  have:=h.lt b (by rw[hq];simp)
  exact ⟨by rw[GzT this];exact hq,hold b this⟩⟩
 refine ⟨h.kept hk fun b hb=>?_,hk⟩
 rw[hw,Array.size_push]
 rcases Nat.lt_or_ge b w.heap.size with h1|h1
 ·omega
 ·rcases Nat.eq_or_lt_of_le h1 with h2|h2
  ·omega
  ·exfalso
   simp only[own1,if_neg (show b≠w.heap.size by omega)] at hb
   have:=h.lt b hb
   omega
theorem Kept.fl {ω ω':azw} (k:Kept w w' ω ω') (j:Nat):Fl w w' ω ω' j:=⟨k.still,fun b _ _ _ hq=>k.own b _ hq⟩
theorem Gave.fresh (h:Rel E.gl gv n s g a w) {U:Ty} {xs:List U.den} {me:Mk} {cells:Array Value} {el:TypeId} {fr:Nat×Nat} {c:Nat} (hw:w'.heap=w.heap.push (.cells cells el fr)) (hos:w'.os=w.os) (htape:w'.tape=w.tape)
 (hout:w'.output=w.output) (hsz:cells.size=c*U.sz) (hu:bzg fr cells.size) (hl:xs.length≤c)
 (hel: ∀i x,xs[i]?=some x→Rep w g.ω g.η U ([3,0]++[i]) me x ((cells.toList.drop (i*U.sz)).take U.sz)):
 Gave E gv n a g w (.v (.sl U) (.own 0 me) xs) s (.slice (some ⟨w.heap.size,0,none⟩) xs.length c) w':=by
 obtain ⟨h1,k⟩:=h.fresh (pa:=[3,0]) hw
 have hnew:w'.heap[w.heap.size]?=some (.cells cells el fr):=by rw[hw];simp
 refine ⟨_,[.slice (some ⟨w.heap.size,0,none⟩) xs.length c],0,h1,rfl,⟨⟨some ⟨w.heap.size,0,none⟩,c,rfl,fun h=>absurd rfl h, .inr ⟨w.heap.size,cells,el,fr,rfl,OzO,hnew,hsz,hu,hl,fun i x hx=>?_⟩⟩,rfl⟩,
  ⟨hos,htape,hout,by rw[hw,Array.size_push];omega,k.still,fun b q hq=>k.own b _ hq⟩⟩
 exact Rep.mono k.still _ _ _ _ _ _ (fun b q _ hq=>k.own b _ hq) (hel i x hx)
theorem EzS (h:Rel E.gl gv n s g a w) {x:Operand} {i:Nat} {ev:Ev} (hop:o.op= .extract x i)
 (e:(match x,TV.opd E 0 s x with
 | .tmp u, .tup vs=>match vs[i]? with
   |some (.v t m a)=>match m with
    | .sh=>some (Ev.ok (.v t .sh a) s)
    |m=>some (.ok (.v t m a) (s.upd u (.tup (vs.set i .junk))))
   |_=>none
 |_,_=>none)=some ev):Does P E gv n g a w o ev:=by
 cases x with
 |tmp u=>
  simp only[TV.opd] at e
  have hu:=h.tm u
  cases hv:s.tm u with
  |tup vs=>
   rw[hv] at hu
   simp only[hv] at e
   obtain ⟨vals,h1,h2,h3⟩:=hu
   cases hc:vs[i]? with
   |none=>simp only[hc] at e;cases e
   |some c=>
    simp only[hc] at e
    cases c with
    |v t m y=>
     have hil:i<vals.length:=by
      rw[h2]
      rcases Nat.lt_or_ge i vs.length with h|h
      ·exact h
      ·rw[List.getElem?_eq_none h] at hc;cases hc
     have hvi:vals[i]?=some vals[i]:=List.getElem?_eq_getElem hil
     obtain ⟨cs,h4,h5⟩:=h3 i _ _ hc hvi
     have hrun:(execOp a.eval o).run P w= .ok (.value vals[i]) w:=by
      have:a.eval (.tmp u)= .tuple vals.toArray:=h1
      simp [execOp,hop,Instr.extract,this,hvi]
     have hne:m≠ .sh→ev= .ok (.v t m y) (s.upd u (.tup (vs.set i .junk)))→Does P E gv n g a w o ev:=by
      rintro hm rfl
      let ω':=mv g.ω (azC false u++[i]) [3,0]
      have hst:azJ w w g.ω ω':=bzJ
      have hk: ∀b q,g.ω b=some q→ ¬(azC false u++[i])<+:q→ω' b=some q:=fun b q hq hp=>bzk hq hp
      have hget: ∀ (q:Pl) z,s.get q=some z→(s.upd u (.tup (vs.set i .junk))).get q=some z:=fun q z hg=>
       nzS (fun T M x hr=>by
        cases hb:q.bx with
        |true=>rw[hb] at hr;exact hr
        |false=>
         rw[hb] at hr
         simp only[St.root,cond_false] at hr
         have hq':q.n≠u:=by rintro e;rw[e,hv] at hr;cases hr
         have:Nat.beq q.n u=false:=by cases hc:Nat.beq q.n u;rfl;exact absurd (Nat.eq_of_beq_eq_true hc) hq'
         simp only[St.root,St.upd,this,cond_false,hr]) hg
      refine .pure hrun ⟨{g with ω:=ω'},cs,0,⟨fun j=>?_,fun b=>?_,fun k t x o hi=>?_,fun b hb=>h.lt b (nzX hb),h.sz,h.df⟩,rfl,⟨?_,h5⟩,Evo.same hst (Hzv (by simp [azC]) (by simp [azC]))⟩
      ·by_cases hj:j=u
       ·subst hj
        simp only[St.upd,show Nat.beq j j=true by simp,cond_true]
        refine ⟨vals,h1,by simp [h2],fun j' c v hc' hv'=>?_⟩
        rw[List.getElem?_set] at hc'
        by_cases hij:i=j'
        ·subst hij
         rw[if_pos rfl] at hc'
         split at hc'<;>cases hc'
         trivial
        ·rw[if_neg hij] at hc'
         refine (h3 j' c v hc' hv').keep fun t m x cs=>Rep.mono hst t _ _ _ _ _ fun b q _ hq=>⟨hk b _ hq ?_,rfl⟩
         rw[List.append_assoc,List.prefix_append_right_inj]
         simp only[List.singleton_append,List.cons_prefix_cons]
         exact fun hh=>hij hh.1
       ·have hb:Nat.beq j u=false:=by cases hc:Nat.beq j u;rfl;exact absurd (Nat.eq_of_beq_eq_true hc) hj
        simp only[St.upd,hb,cond_false]
        refine (h.tm j).keep (g':={g with ω:=ω'}) rfl hst (fun b q hq=>⟨hk b _ hq (kzC (.inr (Ne.symm hj))),rfl⟩) fun ha=>?_
        exact ha.keep rfl hst (fun _ _=>rfl) (fun q _=>⟨fun y m hy=>⟨y,hget q _ hy,rfl⟩,rfl⟩) (fun q _ _=>⟨fun _ hz=>hget q _ hz,fun _ _ _ _=>rfl⟩)
      ·have hu':=h.bx b
       show BV _ w b (s.bx b)
       cases hv':s.bx b with
       |v T m x=>
        rw[hv'] at hu'
        obtain ⟨h6,h7,h8⟩:=hu'
        exact ⟨hk _ _ h6 (by simp [azC]),h7,Rep.mono hst _ _ _ _ _ _ (fun b' q _ hq=>⟨hk _ _ hq (kzC (.inl (by decide))),rfl⟩) h8⟩
       |junk=>trivial
       |_=>rw[hv'] at hu';exact hu'
      ·exact (h.gl k t x o hi).keep rfl hst (fun _ _=>rfl) (fun q hq=>by cases hq) (fun q hq=>by cases hq)
      ·exact Rep.mono hst _ _ _ _ _ _ (fun b q _ hq=>⟨ozy hq,rfl⟩) h4
     cases m with
     |sh=>cases e;exact .pure hrun (Gave.sh h h4 h5)
     |no=>cases e;exact hne (by simp) rfl
     |own _ _=>cases e;exact hne (by simp) rfl
     |pr _ _=>cases e;exact hne (by simp) rfl
    |_=>cases e
  |_=>simp only[hv] at e;cases e
 |_=>cases e
theorem Bzl {b:Nat} {c:Array Value} {el:TypeId} {fr:Nat×Nat} {w:World} (hh:w.heap[b]?=some (.cells c el fr)):(markStringish ⟨b,0,none⟩).run P w= .ok () (w.freeze ⟨b,c.size,none⟩ 1):=by
 simp [markStringish,World.shape?,hh]
theorem Fzx {w:World} {c:Array Value} {el:TypeId}:({w with heap:=w.heap.push (.cells c el)}:World).freeze ⟨w.heap.size,c.size,none⟩ 1={w with heap:=w.heap.push (.cells c el (c.size,c.size+1))}:=by
 simp only[World.freeze,Nat.one_ne_zero,if_false]
 congr 1
 apply Array.ext_getElem?
 intro i
 rw[Array.getElem?_modify,Array.getElem?_push,Array.getElem?_push]
 by_cases hi:w.heap.size=i
 ·subst hi;simp
 ·rw[if_neg hi,if_neg (Ne.symm hi),if_neg (Ne.symm hi)]
theorem PzL: ∀ (ns:List Int) (b:ByteArray),ns.foldl (fun r n=>r.push (UInt8.ofNat n.toNat)) b=⟨b.data++(ns.map fun n=>UInt8.ofNat n.toNat).toArray⟩
 | [],b=>by simp
 |n::ns,b=>by
  rw[List.foldl_cons,PzL ns]
  simp [ByteArray.push]
theorem Lzv (h:Rel E.gl gv n s g a w) (hgv: ∀i,a.eval (.global i)=gv i) (hT: ∀t T,E.tt t=some T→TyOk P T t) {t1 t2:Nat} {x:Operand} {ev:Ev} (hop:o.op= .convert t1 t2 x)
 (e:wz8 E s t1 t2 (TV.opd E t1 s x)=some ev):Does P E gv n g a w o ev:=by
 have hrun: ∀v w',(convert t1 t2 (a.eval x)).run P w= .ok v w'→(execOp a.eval o).run P w= .ok (.value v) w':=by
  intro v w' hc
  simp [execOp,hop,hc]
 unfold wz8 at e
 split at e
 ·rename_i k0 k k1 m y ht1 ht2 hr
  cases e
  have h1:=hT _ _ ht1
  have h2:=hT _ _ ht2
  simp only[TyOk] at h1 h2
  refine .pure (hrun _ _ ?_) (Gave.int h)
  rw[h.int hgv hr]
  simp [convert,azg h1.2,azg h2.2,Conv.intToInt,azx]
 ·rename_i m y ht1 ht2 hr
  cases e
  have h1:=hT _ _ ht1
  have h2:=hT _ _ ht2
  simp only[TyOk] at h1 h2
  refine .pure (hrun _ _ ?_) (Gave.str h)
  rw[h.str hgv hr]
  simp [convert,azg h1.2,azg h2.2]
 ·rename_i m y ht1 ht2 hr
  cases e
  have h1:=hT _ _ ht1
  have h2:=hT _ _ ht2
  simp only[TyOk] at h1 h2
  obtain ⟨_,el,h3,_,h4⟩:=h2
  have hv:=h.str hgv hr
  generalize hcap:(Question.appendCap y.size 0 el).cut (w.tape w.drawn (.appendCap y.size 0 el))=cap
  have hcy:y.size≤cap:=by rw[←hcap];simp [Question.cut]
  let cells:Array Value:=(y.data.map fun b=>Value.int .u8 b.toNat)++Array.replicate (cap-y.size) (.int .u8 0)
  have hcs:cells.size=cap:=by
   have:y.data.size=y.size:=rfl
   simp [cells];omega
  let w2:World:={w with heap:=w.heap.push (.cells cells el (cap,cap+1)),drawn:=w.drawn+1}
  refine ⟨.slice (some ⟨w.heap.size,0,none⟩) (bzv y).length cap,w2, .inl (hrun _ _ ?_),Gave.fresh h rfl rfl rfl rfl (by simp [hcs,Ty.sz]) ?_ ?_ ?_⟩
  ·rw[hv]
   have hlen:(bzv y).length=y.size:=by simp [bzv]
   rw[hlen]
   have hcc:(Array.map (fun b:UInt8=>Value.int .u8 b.toNat) y.data++Array.replicate (cap-y.size) (Value.int .u8 0)).size=cap:=hcs
   have e1:=Bzl (P:=P) (b:=w.heap.size) (c:=cells) (el:=el) (fr:=(0,0)) (w:={w with heap:=w.heap.push (.cells cells el),drawn:=w.drawn+1}) (by simp)
   have e2:=Fzx (w:={w with drawn:=w.drawn+1}) (c:=cells) (el:=el)
   rw[hcs] at e1 e2
   simp only[convert,Sem.run_bind,azg h1.2,azg h3,azg h4,Result.andThen_ok,Conv.stringToBytes,run_choose,Question.forced,Bool.false_eq_true,if_false,hcap,newRow,run_newObj,Sem.run_pure]
   have e3:=e1.trans (congrArg _ e2)
   simp only[cells] at e3
   rw[e3]
   rfl
  ·intro i hi hh;rw[hcs] at hi;simp at hh;omega
  ·simp [bzv];omega
  ·intro i v hv
   have hil:i<y.data.size:=by
    rcases Nat.lt_or_ge i (bzv y).length with h|h
    ·simpa [bzv] using h
    ·rw[List.getElem?_eq_none h] at hv;cases hv
   have hv':v=(y.data[i].toNat:Int):=by
    simp only[bzv,List.getElem?_map,Array.getElem?_toList,Array.getElem?_eq_getElem hil,Option.map_some,Option.some.injEq] at hv
    exact hv.symm
   subst hv'
   have:(cells.toList.drop (i*(Ty.int .u8).sz)).take (Ty.int .u8).sz=[.int .u8 (y.data[i].toNat:Int)]:=by
    have hg:cells.toList[i]?=some (.int .u8 (y.data[i].toNat:Int)):=by
     have hil':i<y.size:=hil
     simp [cells,List.getElem?_append,hil',Array.getElem?_eq_getElem hil]
    have hlt:i<cells.toList.length:=by rw[Array.length_toList,hcs];have:y.data.size=y.size:=rfl;omega
    rw[show (Ty.int .u8).sz=1 from rfl,Nat.mul_one,List.drop_eq_getElem_cons hlt]
    rw[List.getElem?_eq_getElem hlt] at hg
    simp only[Option.some.injEq] at hg
    simp [hg]
   rw[this]
   rfl
 ·rename_i m xs ht1 ht2 hr
  cases ha:m.all<;>simp only[ha,cond_false,cond_true] at e
  ·cases e
  cases e
  have h1:=hT _ _ ht1
  have h2:=hT _ _ ht2
  simp only[TyOk] at h1 h2
  obtain ⟨_,el,h3,_,h4⟩:=h1
  obtain ⟨pa,cs,hrv⟩:=h.opd' hgv t1 x
  obtain ⟨hm,pa',cs',hrep,hv⟩:=h.res hrv _ _ _ hr
  obtain ⟨A,c,hcs,hle,hel⟩:=hrep.shared ha
  have hv':a.eval x= .slice A (xs:List Int).length c:=by rw[hv,hcs];rfl
  refine .pure (hrun _ _ ?_) (Gave.str h)
  rw[hv',run_convert_bytes_string w t1 t2 el A _ c h3 h4 h2.2]
  have hsof:(xs:List Int).foldl (fun r n=>r.push (UInt8.ofNat n.toNat)) ByteArray.empty=sof xs:=by
   rw[PzL];show (⟨#[]++_⟩:ByteArray)=_;simp [sof]
  cases A with
  |none=>
   have:(xs:List Int)=[]:=by
    cases hx:(xs:List Int) with
    |nil=>rfl
    |cons y ys=>obtain ⟨ad,row,hA,_⟩:=hel 0 y (by rw[hx];rfl);cases hA
   rw[←hsof,this]
   simp [Conv.bytesToString]
  |some ad=>
   rw[run_bytesToString w ad (xs:List Int).length c xs ?_,hsof]
   by_cases hz:(xs:List Int).length=0
   ·have:(xs:List Int)=[]:=List.length_eq_zero_iff.1 hz
    rw[this];simp [loadCells,loadCellsFrom]
   ·obtain ⟨ad',row',hA',hs',_⟩:=hel 0 _ (List.getElem?_eq_getElem (show 0<(xs:List Int).length by omega))
    cases hA'
    obtain ⟨ab,ao,asp⟩:=ad
    simp only at hs'
    subst hs'
    refine fzM (by simp) fun j v hj=>?_
    simp only[List.getElem?_map,Option.map_eq_some_iff] at hj
    obtain ⟨z,hz1,hz2⟩:=hj
    obtain ⟨ad2,row2,hA2,_,_,hl2,hr2,hrep2⟩:=hel j z hz1
    cases hA2
    have:row2=[.int .u8 z]:=hrep2
    subst this
    have:=hr2 0 _ rfl
    simpa [Ty.sz,←hz2] using this
 ·cases e
end
end Go.TV
namespace Go.TV
section
variable {P:Program} {gv:Nat→Value} {n:Nat} {s s':St} {g:G} {a:Act} {w w':World} {R:Type} {E:Env R} {o:Oper}
theorem Rel.reown {gl:Nat→Option VV} (h:Rel gl gv n s g a w) {ω':azw} (hr: ∀b q,g.ω b=some q→ ¬[3]<+:q→ω' b=some q) (hst:azJ w w g.ω ω') (hn: ∀b,ω' b≠none→g.ω b≠none):
 Rel gl gv n s {g with ω:=ω'} a w where
 tm u:=(h.tm u).keep rfl hst (fun b q hq=>⟨hr b _ hq (by simp [azC]),rfl⟩) fun ha=>ha.keep rfl hst (fun _ _=>rfl) (fun q _=>⟨fun y m hy=>⟨y,hy,rfl⟩,rfl⟩) fun q _ _=>⟨fun _ h=>h,fun _ _ _ _=>rfl⟩
 bx b:=by
  have hu:=h.bx b
  cases hv:s.bx b with
  |v T m x=>
   rw[hv] at hu
   obtain ⟨h1,h2,h4⟩:=hu
   exact ⟨hr _ _ h1 (by simp),h2,Rep.mono hst _ _ _ _ _ _ (fun b q _ hq=>⟨hr b _ hq (by simp [azC]),rfl⟩) h4⟩
  |junk=>trivial
  |_=>rw[hv] at hu;exact hu
 gl i t x o hi:=(h.gl i t x o hi).keep rfl hst (fun _ _=>rfl) (fun q hq=>by cases hq) (fun q hq=>by cases hq)
 lt b hb:=h.lt b (hn b hb)
 sz:=h.sz
 df:=h.df
theorem Qzg {ω:azw} {k:Nat} {p p' q:Path} {b:Nat} (h:ω b=some q) (hq: ¬[3]<+:q):mv ω ([3,k]++p) p' b=some q:=
 bzk h (fun hp=>hq (List.IsPrefix.trans (by simp [List.cons_append]) hp))
structure Held (E:Env R) (gv:Nat→Value) (n:Nat) (s s':St) (g g':G) (a:Act) (w:World):Prop where
 rel:Rel E.gl gv n s' g' a w
 φ:g'.φ=g.φ
 η:g'.η=g.η
 fl:Fl w w g.ω g'.ω 1
theorem Held.refl (h:Rel E.gl gv n s g a w):Held E gv n s s g g a w:=⟨h,rfl,rfl,Fl.refl _ _ _⟩
theorem Held.trans {s1 s2 s3:St} {g1 g2 g3:G} (h:Held E gv n s1 s2 g1 g2 a w) (k:Held E gv n s2 s3 g2 g3 a w):Held E gv n s1 s3 g1 g3 a w:=
 ⟨k.rel,k.φ.trans h.φ,k.η.trans h.η,h.fl.1.trans k.fl.1,fun b j q hj hq=>by
  obtain ⟨h1,_⟩:=h.fl.2 b j q hj hq
  obtain ⟨h2,_⟩:=k.fl.2 b j q hj h1
  exact ⟨h2,rfl⟩⟩
theorem ozm (h:Rel E.gl gv n s g a w) (hgv: ∀i,a.eval (.global i)=gv i) {ps:List (Nat×Operand)} {T:Ty} {i:Nat} {y:T.den} {m:Mk} (pa:Path) (e:yzc E ps T i s=some (y,m,s')):
 ∃g' cs,Held E gv n s s' g g' a w∧m.all=true∧Rep w g'.ω g'.η T ([3,0]++pa) m y cs∧
  (match ps.find? (fun p=>Nat.beq p.1 i) with|some (_,x)=>a.eval x=mkV T cs|none=>cs=azO T):=by
 unfold yzc at e
 cases hf:ps.find? (fun p=>Nat.beq p.1 i) with
 |none=>
  simp only[hf] at e
  cases e
  exact ⟨g,azO T,Held.refl h,pzA T,Rep.zero T _,rfl⟩
 |some px=>
  obtain ⟨j,x⟩:=px
  simp only[hf] at e
  obtain ⟨ha,g1,ht⟩:=h.grabT hgv 1 e
  obtain ⟨cs,hr,hv⟩:=ht.rep
  let ω':=mv g1.ω ([3,1]++[]) ([3,0]++pa)
  have h2:=ht.rel.reown (ω':=ω') (fun b q hq hp=>Qzg hq hp) bzJ (fun b hb=>nzX hb)
  refine ⟨{g1 with ω:=ω'},cs,⟨h2,ht.φ,ht.η,ht.fl.1.trans bzJ,fun b j q hj hq=>?_⟩,ha,?_,hv⟩
  ·obtain ⟨h3,_⟩:=ht.fl.2 b j q hj hq
   exact ⟨bzk h3 (by simpa using kzC (r:=[]) (q:=q) (i:=3) (u:=1) (j:=3) (v:=j) (.inr (Ne.symm hj))),rfl⟩
  ·exact Rep.mono bzJ _ _ _ _ _ _ (fun b q _ hq=>⟨ozy (by simpa using hq),rfl⟩) hr
theorem Held.rep {s1 s2:St} {g1 g2:G} (h:Held E gv n s1 s2 g1 g2 a w) {T:Ty} {pa:Path} {m:Mk} {y:T.den} {cs:List Value} (hr:Rep w g1.ω g1.η T ([3,0]++pa) m y cs):Rep w g2.ω g2.η T ([3,0]++pa) m y cs:=by
 rw[h.η];exact h.fl.rep (by decide) hr
def cat:Ty→Nat→(Nat→List Value)→List Value
 | .prod _ b,f,rows=>rows f++cat b (f+1) rows
 |_,_,_=>[]
def mzU:Ty→Bool
 | .unit=>true
 | .prod _ b=>mzU b
 |_=>false
def Jzs (a:Act) (ps:List (Nat×Operand)) (T:Ty) (i:Nat) (cs:List Value):Prop:=
 cs.length=T.sz∧(∀v∈cs,nzG v)∧(match ps.find? (fun p=>Nat.beq p.1 i) with|some (_,x)=>a.eval x=mkV T cs|none=>cs=azO T)
def tzi (a:Act) (ps:List (Nat×Operand)):Ty→Nat→(Nat→List Value)→Prop
 | .prod T b,f,rows=>Jzs a ps T f (rows f)∧tzi a ps b (f+1) rows
 |_,_,_=>True
theorem mzx (hgv: ∀i,a.eval (.global i)=gv i) {ps:List (Nat×Operand)}: ∀ (T:Ty) (f:Nat) (s s':St) (g:G) (y:T.den) (m:Mk) (pa:Path),mzU T=true→Rel E.gl gv n s g a w→ezu E ps T f s=some (y,m,s')→
 ∃g' rows,Held E gv n s s' g g' a w∧m.all=true∧Rep w g'.ω g'.η T ([3,0]++pa) m y (cat T f rows)∧tzi a ps T f rows
 | .unit,f,s,s',g,y,m,pa,_,h,e=>by
   simp only[ezu] at e
   cases e
   exact ⟨g,fun _=>[],Held.refl h,rfl,rfl,trivial⟩
 | .prod A B,f,s,s',g,y,m,pa,hc,h,e=>by
   simp only[ezu] at e
   split at e
   ·rename_i x1 m1 s1 h1
    split at e
    ·rename_i x2 m2 s2 h2
     cases e
     obtain ⟨g1,cs,k1,a1,r1,v1⟩:=ozm h hgv (pa++[0]) h1
     obtain ⟨g2,rows,k2,a2,r2,v2⟩:=mzx hgv B (f+1) s1 _ g1 x2 m2 (pa++[1]) hc k1.rel h2
     have r1':=k2.rep r1
     have hrow:cat B (f+1) (fun i=>if i=f then cs else rows i)=cat B (f+1) rows:=cat_off B (f+1) f _ _ (by omega) (fun i hi=>by simp [hi])
     have hro:tzi a ps B (f+1) (fun i=>if i=f then cs else rows i):=rowsOk_off B (f+1) f _ _ (by omega) (fun i hi=>by simp [hi]) v2
     refine ⟨g2,fun i=>if i=f then cs else rows i,k1.trans k2,?_,?_,⟨?_,hro⟩⟩
     ·cases m1<;>cases m2<;>simp_all [Mk.mkpr,Mk.all]
     ·simp only[cat,if_true,hrow]
      exact Rep.pair (by simpa [List.append_assoc] using r1') (by simpa [List.append_assoc] using r2)
     ·simp only[if_true]
      exact ⟨Rep.length _ _ _ _ _ r1,Rep.cellsOk _ _ _ _ _ a1 r1,v1⟩
    ·cases e
   ·cases e
where
 cat_off: ∀ (T:Ty) (f i:Nat) (rows rows':Nat→List Value),i<f→(∀j,j≠i→rows' j=rows j)→cat T f rows'=cat T f rows
  | .prod A B,f,i,rows,rows',hi,h=>by simp only[cat];rw[h f (by omega),cat_off B (f+1) i rows rows' (by omega) h]
  | .unit,_,_,_,_,_,_=>rfl
  | .int _,_,_,_,_,_,_=>rfl
  | .bool,_,_,_,_,_,_=>rfl
  | .str,_,_,_,_,_,_=>rfl
  | .sl _,_,_,_,_,_,_=>rfl
  | .item,_,_,_,_,_,_=>rfl
  | .arr _ _,_,_,_,_,_,_=>rfl
 rowsOk_off: ∀ (T:Ty) (f i:Nat) (rows rows':Nat→List Value),i<f→(∀j,j≠i→rows' j=rows j)→tzi a ps T f rows→tzi a ps T f rows'
  | .prod A B,f,i,rows,rows',hi,h,hr=>by
    obtain ⟨h1,h2⟩:=hr
    exact ⟨by rw[h f (by omega)];exact h1,rowsOk_off B (f+1) i rows rows' (by omega) h h2⟩
  | .unit,_,_,_,_,_,_,_=>trivial
  | .int _,_,_,_,_,_,_,_=>trivial
  | .bool,_,_,_,_,_,_,_=>trivial
  | .str,_,_,_,_,_,_,_=>trivial
  | .sl _,_,_,_,_,_,_,_=>trivial
  | .item,_,_,_,_,_,_,_=>trivial
  | .arr _ _,_,_,_,_,_,_,_=>trivial
end
end Go.TV
namespace Go.TV
section
variable {P:Program} {gv:Nat→Value} {n:Nat} {s s':St} {g:G} {a:Act} {w w':World} {R:Type} {E:Env R} {o:Oper}
theorem ozA: ∀ (row:List Value) (k off:Nat) (cells:Array Value),off+k+row.length≤cells.size→
 ((row.zipIdx k).foldl (fun cs (c,j)=>cs.setIfInBounds (off+j) c) cells).toList=bzC cells.toList (off+k) row
 | [],k,off,cells,_=>by simp [bzC]
 |v::row,k,off,cells,h=>by
  simp only[List.length_cons] at h
  rw[List.zipIdx_cons,List.foldl_cons,ozA row (k+1) off _ (by rw[Array.size_setIfInBounds];omega)]
  refine List.ext_getElem? fun i=>?_
  have hs:(cells.setIfInBounds (off+k) v).toList.length=cells.size:=by rw[Array.length_toList,Array.size_setIfInBounds]
  have hc:cells.toList.length=cells.size:=Array.length_toList
  have e1:=czP (l:=(cells.setIfInBounds (off+k) v).toList) (row:=row) (o:=off+(k+1)) (by omega) i
  have e2:=czP (l:=cells.toList) (row:=v::row) (o:=off+k) (by rw[List.length_cons];omega) i
  rw[e1,e2]
  simp only[Array.toList_setIfInBounds,List.getElem?_set,List.length_cons]
  by_cases h1:i<off+k
  ·rw[if_pos (by omega),if_neg (by omega),if_pos h1]
  ·by_cases h2:i=off+k
   ·subst h2
    rw[if_pos (by omega),if_pos rfl,if_pos (by omega),if_neg (by omega),if_pos (by omega)]
    simp
   ·by_cases h3:i<off+(k+1)+row.length
    ·rw[if_neg (by omega),if_pos h3,if_neg h1,if_pos (by omega)]
     have:i- (off+k)=(i- (off+(k+1)))+1:=by omega
     rw[this,List.getElem?_cons_succ]
    ·rw[if_neg (by omega),if_neg h3,if_neg (by omega),if_neg h1,if_neg (by omega)]
def lens:Ty→Nat→(Nat→List Value)→Prop
 | .prod T b,f,rows=>(rows f).length=T.sz∧lens b (f+1) rows
 |_,_,_=>True
theorem QzO {ps:List (Nat×Operand)}: ∀ (T:Ty) (f:Nat) (rows:Nat→List Value),tzi a ps T f rows→lens T f rows
 | .prod A B,f,rows,h=>⟨h.1.1,QzO B _ _ h.2⟩
 | .unit,_,_,_=>trivial
 | .int _,_,_,_=>trivial
 | .bool,_,_,_=>trivial
 | .str,_,_,_=>trivial
 | .sl _,_,_,_=>trivial
 | .item,_,_,_=>trivial
 | .arr _ _,_,_,_=>trivial
theorem Kz1: ∀ (T:Ty) (f:Nat) (rows:Nat→List Value),mzU T=true→lens T f rows→(cat T f rows).length=T.sz
 | .prod A B,f,rows,hc,h=>by simp only[cat,List.length_append,h.1,Kz1 B _ _ hc h.2,Ty.sz]
 | .unit,_,_,_,_=>rfl
 | .int _,_,_,h,_=>by cases h
 | .bool,_,_,h,_=>by cases h
 | .str,_,_,h,_=>by cases h
 | .sl _,_,_,h,_=>by cases h
 | .item,_,_,h,_=>by cases h
 | .arr _ _,_,_,h,_=>by cases h
theorem ozr {α:Type} {l1 l2 row:List α} {o:Nat} (h:o+row.length≤l1.length):bzC (l1++l2) o row=bzC l1 o row++l2:=by
 simp only[bzC];exact wzn h
theorem nzB {α:Type} {l1 l2 row:List α} {o:Nat}:bzC (l1++l2) (l1.length+o) row=l1++bzC l2 o row:=by
 simp only[bzC]
 have:=vzg (l1:=l1) (l2:=l2) (row:=row) (o:=l1.length+o) (n:=row.length) (by omega)
 rw[this]
 simp [Nat.add_assoc]
theorem zzZ: ∀ (T:Ty) (f k d:Nat) (U:Ty) (rows:Nat→List Value) (row:List Value),mzU T=true→lens T f rows→czR T k=some U→azX T k=some d→row.length=U.sz→
 bzC (cat T f rows) d row=cat T f (fun j=>if j=f+k then row else rows j)∧lens T f (fun j=>if j=f+k then row else rows j)
 | .prod A B,f,0,d,U,rows,row,hc,hl,h1,h2,h3=>by
   cases h1;cases h2
   simp only[cat,lens,Nat.add_zero,if_true]
   have e:=mzx.cat_off B (f+1) f rows (fun j=>if j=f then row else rows j) (by omega) (fun j hj=>by simp [hj])
   refine ⟨?_,h3,?_⟩
   ·rw[e]
    have h0:(rows f).length=row.length:=by rw[hl.1,h3]
    rw[ozr (by omega)]
    congr 1
    simp only[bzC,Nat.zero_add,List.take_zero,List.nil_append]
    rw[←h0,List.drop_length,List.append_nil]
   ·exact tzl B (f+1) f rows _ (by omega) (fun j hj=>by simp [hj]) hl.2
 | .prod A B,f,k+1,d,U,rows,row,hc,hl,h1,h2,h3=>by
   simp only[azX] at h2
   split at h2
   ·rename_i d' hd
    cases h2
    have ih:=zzZ B (f+1) k d' U rows row hc hl.2 h1 hd h3
    have e: ∀j,(if j=f+1+k then row else rows j)=(if j=f+(k+1) then row else rows j):=fun j=>by
     rw[show f+1+k=f+(k+1) by omega]
    simp only[e] at ih
    simp only[cat,lens,if_neg (show f≠f+(k+1) by omega)]
    refine ⟨?_,hl.1,ih.2⟩
    rw[←hl.1,nzB,ih.1]
   ·cases h2
 | .unit,_,_,_,_,_,_,_,_,h,_,_=>by cases h
 | .int _,_,_,_,_,_,_,h,_,_,_,_=>by cases h
 | .bool,_,_,_,_,_,_,h,_,_,_,_=>by cases h
 | .str,_,_,_,_,_,_,h,_,_,_,_=>by cases h
 | .sl _,_,_,_,_,_,_,h,_,_,_,_=>by cases h
 | .item,_,_,_,_,_,_,h,_,_,_,_=>by cases h
 | .arr _ _,_,_,_,_,_,_,h,_,_,_,_=>by cases h
where
 tzl: ∀ (T:Ty) (f i:Nat) (rows rows':Nat→List Value),i<f→(∀j,j≠i→rows' j=rows j)→lens T f rows→lens T f rows'
  | .prod A B,f,i,rows,rows',hi,h,hr=>⟨by rw[h f (by omega)];exact hr.1,tzl B (f+1) i rows rows' (by omega) h hr.2⟩
  | .unit,_,_,_,_,_,_,_=>trivial
  | .int _,_,_,_,_,_,_,_=>trivial
  | .bool,_,_,_,_,_,_,_=>trivial
  | .str,_,_,_,_,_,_,_=>trivial
  | .sl _,_,_,_,_,_,_,_=>trivial
  | .item,_,_,_,_,_,_,_=>trivial
  | .arr _ _,_,_,_,_,_,_,_=>trivial
def hzq:Ty→Nat→List (Nat×Nat)
 | .prod A b,o=>(o,A.sz)::hzq b (o+A.sz)
 |_,_=>[]
theorem uz1: ∀ (T:Ty) (o k d:Nat) (U:Ty),mzU T=true→czR T k=some U→azX T k=some d→(hzq T o)[k]?=some (o+d,U.sz)
 | .prod A B,o,0,d,U,hc,h1,h2=>by cases h1;cases h2;rfl
 | .prod A B,o,k+1,d,U,hc,h1,h2=>by
   simp only[azX] at h2
   split at h2
   ·rename_i d' hd
    cases h2
    simp only[hzq,List.getElem?_cons_succ]
    rw[uz1 B _ k d' U hc h1 hd,Nat.add_assoc]
   ·cases h2
 | .unit,_,_,_,_,_,h,_=>by cases h
 | .int _,_,_,_,_,h,_,_=>by cases h
 | .bool,_,_,_,_,h,_,_=>by cases h
 | .str,_,_,_,_,h,_,_=>by cases h
 | .sl _,_,_,_,_,h,_,_=>by cases h
 | .item,_,_,_,_,h,_,_=>by cases h
 | .arr _ _,_,_,_,_,h,_,_=>by cases h
theorem zzH: ∀ (T:Ty) (fs:List Field) (o:Nat),FlOk P T fs o→(fs.mapM (fun f=>Prod.mk f.offset<$>sizeOf f.type:Field→Sem (Nat×Nat))).run P w= .ok (hzq T o) w
 | .prod A B,fs,o,h=>by
   simp only[FlOk] at h
   obtain ⟨f,rest,rfl,h1,h2,h3,h4,h5⟩:=h
   have ih:=zzH B rest _ h5
   simp only[List.mapM_cons,Sem.run_bind,Sem.run_map,h4.b.run_sizeOf,Result.andThen_ok,Sem.run_pure,h1]
   simp [ih,hzq]
 | .unit,fs,o,h=>by
   simp only[FlOk] at h
   subst h;simp [hzq]
 | .int _,_,_,h=>by simp [FlOk] at h
 | .bool,_,_,h=>by simp [FlOk] at h
 | .str,_,_,h=>by simp [FlOk] at h
 | .sl _,_,_,h=>by simp [FlOk] at h
 | .item,_,_,h=>by simp [FlOk] at h
 | .arr _ _,_,_,h=>by simp [FlOk] at h
theorem AzA: ∀ (T:Ty) (k:Nat),mzU T=true→k<bzY T→ ∃U d,czR T k=some U∧azX T k=some d
 | .prod A B,0,_,_=>⟨A,0,rfl,rfl⟩
 | .prod A B,k+1,hc,h=>by
   obtain ⟨U,d,h1,h2⟩:=AzA B k hc (by simp only[bzY] at h;omega)
   exact ⟨U,A.sz+d,h1,by simp [azX,h2]⟩
 | .unit,_,_,h=>by simp [bzY] at h
 | .int _,_,h,_=>by cases h
 | .bool,_,h,_=>by cases h
 | .str,_,h,_=>by cases h
 | .sl _,_,h,_=>by cases h
 | .item,_,h,_=>by cases h
 | .arr _ _,_,h,_=>by cases h
theorem kzL {n:Nat} {p:Nat×Operand} {ps:List (Nat×Operand)} (h:bzM n (p::ps)=true):p.1<n∧(∀q∈ps,q.1≠p.1)∧bzM n ps=true:=by
 simp only[bzM] at h
 cases hc:(Nat.ble (p.1+1) n&&!(ps.any fun q=>Nat.beq q.1 p.1))<;>rw[hc] at h
 ·cases h
 ·simp only[Bool.and_eq_true,Bool.not_eq_true',List.any_eq_false] at hc
  refine ⟨Nat.le_of_ble_eq_true hc.1,fun q hq e=>?_,h⟩
  have:=hc.2 q hq
  rw[e] at this
  simp at this
theorem GzU {T:Ty} (hc:mzU T=true) (ρ:Operand→Value) (rows:Nat→List Value): ∀ (ps:List (Nat×Operand)) (cur:Nat→List Value),bzM (bzY T) ps=true→lens T 0 cur→
 (∀p∈ps,∀U,czR T p.1=some U→(rows p.1).length=U.sz∧(ρ p.2).cells=(rows p.1).toArray)→(cells:Array Value)→cells.toList=cat T 0 cur→
 ∃cells' cur',Instr.fill ((hzq T 0).toArray[·]?) cells (ps.map fun p=>(p.1,ρ p.2))=some cells'∧cells'.toList=cat T 0 cur'∧lens T 0 cur'∧
  (∀j,(∀p∈ps,p.1≠j)→cur' j=cur j)∧(∀p∈ps,cur' p.1=rows p.1)
 | [],cur,_,hl,_,cells,hcl=>⟨cells,cur,rfl,hcl,hl,fun _ _=>rfl,fun p hp=>by simp at hp⟩
 |p::ps,cur,hp,hl,hr,cells,hcl=>by
  obtain ⟨h1,h2,h3⟩:=kzL hp
  obtain ⟨U,d,h4,h5⟩:=AzA T p.1 hc h1
  obtain ⟨h6,h7⟩:=hr p (by simp) U h4
  have hpl:=uz1 T 0 p.1 d U hc h4 h5
  rw[Nat.zero_add] at hpl
  have hfit:=mzX T p.1 d U h5 h4
  have hclen:cells.size=T.sz:=by rw[←Array.length_toList,hcl];exact Kz1 T 0 cur hc hl
  obtain ⟨h8,h9⟩:=zzZ T 0 p.1 d U cur (rows p.1) hc hl h4 h5 h6
  have hf:=ozA (rows p.1) 0 d cells (by omega)
  obtain ⟨cells',cur',i1,i2,i3,i4,i5⟩:=GzU hc ρ rows ps _ h3 h9 (fun q hq=>hr q (by simp [hq])) (((rows p.1).zipIdx 0).foldl (fun cs (c,j)=>cs.setIfInBounds (d+j) c) cells) (by rw[hf,Nat.add_zero,hcl,h8])
  refine ⟨cells',cur',?_,i2,i3,fun j hj=>?_,fun q hq=>?_⟩
  ·simp only[List.map_cons,Instr.fill,List.getElem?_toArray,hpl,h7,List.size_toArray,h6,ne_eq,not_true,decide_false,Bool.false_or,decide_eq_true_eq,gt_iff_lt]
   rw[if_neg (by simp;omega)]
   rw[←i1]
   congr 1
   ·funext x;simp
   ·rw[←Array.foldl_toList,Array.toList_zipIdx]
  ·rw[i4 j (fun q hq=>hj q (by simp [hq])),if_neg]
   have:=hj p (by simp)
   omega
  ·rcases List.mem_cons.1 hq with rfl|hq
   ·rw[i4 q.1 (fun q' hq'=>h2 q' hq'),if_pos (by omega)]
   ·exact i5 q hq
end
end Go.TV
namespace Go.TV
section
variable {P:Program} {gv:Nat→Value} {n:Nat} {s s':St} {g:G} {a:Act} {w w':World} {R:Type} {E:Env R} {o:Oper}
theorem tzl: ∀ (T:Ty) (f i:Nat) (rows rows':Nat→List Value),i<f→(∀j,j≠i→rows' j=rows j)→lens T f rows→lens T f rows'
 | .prod A B,f,i,rows,rows',hi,h,hr=>⟨by rw[h f (by omega)];exact hr.1,tzl B (f+1) i rows rows' (by omega) h hr.2⟩
 | .unit,_,_,_,_,_,_,_=>trivial
 | .int _,_,_,_,_,_,_,_=>trivial
 | .bool,_,_,_,_,_,_,_=>trivial
 | .str,_,_,_,_,_,_,_=>trivial
 | .sl _,_,_,_,_,_,_,_=>trivial
 | .item,_,_,_,_,_,_,_=>trivial
 | .arr _ _,_,_,_,_,_,_,_=>trivial
theorem Ezh: ∀ (T:Ty) (f:Nat),mzU T=true→ ∃cur:Nat→List Value,cat T f cur=azO T∧lens T f cur∧ ∀k U,czR T k=some U→cur (f+k)=azO U
 | .prod A B,f,hc=>by
   obtain ⟨cur,h1,h2,h3⟩:=Ezh B (f+1) hc
   have e:=mzx.cat_off B (f+1) f cur (fun j=>if j=f then azO A else cur j) (by omega) (fun j hj=>by simp [hj])
   have e2:=tzl B (f+1) f cur (fun j=>if j=f then azO A else cur j) (by omega) (fun j hj=>by simp [hj]) h2
   refine ⟨fun j=>if j=f then azO A else cur j,by simp only[cat,if_true,e,h1,azO],⟨by simp only[if_true];exact (Rep.zeroSh (w:=default) (ω:=fun _=>none) (η:=fun _=>none) A []).2,e2⟩,fun k U hk=>?_⟩
   cases k with
   |zero=>cases hk;simp
   |succ k=>simp only[if_neg (show f+(k+1)≠f by omega)];rw[←h3 k U hk];congr 1;omega
 | .unit,f,_=>⟨fun _=>[],rfl,trivial,fun k U h=>by cases h⟩
 | .int _,_,h=>by cases h
 | .bool,_,h=>by cases h
 | .str,_,h=>by cases h
 | .sl _,_,h=>by cases h
 | .item,_,h=>by cases h
 | .arr _ _,_,h=>by cases h
theorem CzD: ∀ (T:Ty) (f:Nat) (r1 r2:Nat→List Value),(∀k U,czR T k=some U→r1 (f+k)=r2 (f+k))→cat T f r1=cat T f r2
 | .prod A B,f,r1,r2,h=>by
   simp only[cat]
   rw[show r1 f=r2 f from h 0 A rfl,CzD B (f+1) r1 r2 (fun k U hk=>by
    have:=h (k+1) U hk
    rw[show f+1+k=f+(k+1) by omega];exact this)]
 | .unit,_,_,_,_=>rfl
 | .int _,_,_,_,_=>rfl
 | .bool,_,_,_,_=>rfl
 | .str,_,_,_,_=>rfl
 | .sl _,_,_,_,_=>rfl
 | .item,_,_,_,_=>rfl
 | .arr _ _,_,_,_,_=>rfl
theorem xzQ {ps:List (Nat×Operand)}: ∀ (T:Ty) (f k:Nat) (U:Ty) (rows:Nat→List Value),mzU T=true→tzi a ps T f rows→czR T k=some U→Jzs a ps U (f+k) (rows (f+k))
 | .prod A B,f,0,U,rows,hc,h,hk=>by cases hk;exact h.1
 | .prod A B,f,k+1,U,rows,hc,h,hk=>by
   have:=xzQ B (f+1) k U rows hc h.2 hk
   rw[show f+(k+1)=f+1+k by omega];exact this
 | .unit,_,_,_,_,_,_,h=>by cases h
 | .int _,_,_,_,_,h,_,_=>by cases h
 | .bool,_,_,_,_,h,_,_=>by cases h
 | .str,_,_,_,_,h,_,_=>by cases h
 | .sl _,_,_,_,_,h,_,_=>by cases h
 | .item,_,_,_,_,h,_,_=>by cases h
 | .arr _ _,_,_,_,_,h,_,_=>by cases h
theorem wz7: ∀ {n:Nat} {ps:List (Nat×Operand)},bzM n ps=true→ ∀p∈ps,ps.find? (fun q=>Nat.beq q.1 p.1)=some p
 |n,q::ps,h,p,hp=>by
  obtain ⟨h1,h2,h3⟩:=kzL h
  rcases List.mem_cons.1 hp with rfl|hp
  ·simp
  ·rw[List.find?_cons_of_neg]
   ·exact wz7 h3 p hp
   ·have:=h2 p hp
    intro e
    exact this (Nat.eq_of_beq_eq_true e).symm
theorem EzM {ps:List (Nat×Operand)} {k:Nat} (h: ∀p∈ps,p.1≠k):ps.find? (fun q=>Nat.beq q.1 k)=none:=by
 rw[List.find?_eq_none]
 intro p hp e
 exact h p hp (Nat.eq_of_beq_eq_true e)
theorem wzT {T:Ty} (hc:mzU T=true) {ps:List (Nat×Operand)} {rows:Nat→List Value} (hp:bzM (bzY T) ps=true) (hr:tzi a ps T 0 rows):
 Instr.fill ((hzq T 0).toArray[·]?) (azO T).toArray (ps.map fun p=>(p.1,a.eval p.2))=some (cat T 0 rows).toArray:=by
 obtain ⟨cur,h1,h2,h3⟩:=Ezh T 0 hc
 have hps: ∀p∈ps,∀U,czR T p.1=some U→(rows p.1).length=U.sz∧(a.eval p.2).cells=(rows p.1).toArray:=by
  intro p hpm U hU
  have:=xzQ T 0 p.1 U rows hc hr hU
  rw[Nat.zero_add] at this
  obtain ⟨h4,h5,h6⟩:=this
  rw[wz7 hp p hpm] at h6
  exact ⟨h4,by rw[h6];exact ezP h4 h5⟩
 obtain ⟨cells',cur',i1,i2,i3,i4,i5⟩:=GzU hc a.eval rows ps cur hp h2 hps (azO T).toArray (by simp [h1])
 rw[i1]
 congr 1
 apply Array.toList_inj.1
 rw[i2]
 refine CzD T 0 _ _ fun k U hk=>?_
 rw[Nat.zero_add]
 by_cases hex: ∃p∈ps,p.1=k
 ·obtain ⟨p,hpm,rfl⟩:=hex
  exact i5 p hpm
 ·have hno: ∀p∈ps,p.1≠k:=fun p hpm e=>hex ⟨p,hpm,e⟩
  have:=xzQ T 0 k U rows hc hr hk
  rw[Nat.zero_add] at this
  obtain ⟨_,_,h6⟩:=this
  rw[EzM hno] at h6
  have h7:=h3 k U hk
  rw[Nat.zero_add] at h7
  rw[i4 k hno,h7,h6]
theorem TyOk.struct {T:Ty} {t:TypeId} (hc:mzU T=true) (h:TyOk P T t): ∃fs,P.underlying t=some (.struct fs)∧FlOk P T fs.toList 0:=by
 cases T with
 |prod A B=>
  simp only[TyOk] at h
  obtain ⟨_,f,fs,h1,h2,h3,h4,h5,h6,h7,h8⟩:=h
  refine ⟨_,h1,?_⟩
  simp only[FlOk]
  exact ⟨f,fs,rfl,h4,h5,h6,h7,by simpa using h8⟩
 |unit=>
  simp only[TyOk] at h
  exact ⟨_,h.2,by simp [FlOk]⟩
 |_=>cases hc
theorem dzr (T:Ty):(azO T).length=T.sz∧ ∀v∈azO T,nzG v:=by
 have h:=Rep.zeroSh (w:=default) (ω:=fun _=>none) (η:=fun _=>none) T []
 exact ⟨h.2,Rep.cellsOk _ _ _ _ _ rfl h.1⟩
theorem IzC (h:Rel E.gl gv n s g a w) (hgv: ∀i,a.eval (.global i)=gv i) {t:Nat} {T:Ty} {parts:Array (Nat×Operand)} {y:T.den} {m:Mk} (hT:TyOk P T t) (hc:mzU T=true) (hop:o.op= .build t parts)
 (hp:bzM (bzY T) parts.toList=true) (e:ezu E parts.toList T 0 s=some (y,m,s')):Does P E gv n g a w o (.ok (.v T m y) s'):=by
 obtain ⟨g',rows,k1,k2,k3,k4⟩:=mzx hgv T 0 s s' g y m [] hc h e
 obtain ⟨fs,h1,h2⟩:=hT.struct hc
 have hf:=wzT hc hp k4
 have hz:=ezP (dzr T).1 (dzr T).2
 refine .pure (v:=mkV T (cat T 0 rows)) ?_ ⟨g',_,0,k1.rel,k1.η,⟨by simpa using k3,rfl⟩,Evo.fl k1.fl⟩
 have hag:isAgg T=true:=by cases T<;>first|rfl|cases hc
 have hpl:(Array.mapM (fun f=>Prod.mk f.offset<$>sizeOf f.type) fs:Sem (Array (Nat×Nat))).run P w= .ok (hzq T 0).toArray w:=by
  rw[Array.mapM_eq_mapM_toList]
  simp [zzH T fs.toList 0 h2]
 have hm:(Array.map (fun x=>(x.1,a.eval x.2)) parts).toList=parts.toList.map fun p=>(p.1,a.eval p.2):=by simp
 simp [execOp,hop,Instr.build,hT.b.run_zero,hz,azg h1,hpl,mkV,hag]
 simp only[List.getElem?_toArray] at hf
 rw[show (Value.agg (azO T).toArray).cells=(azO T).toArray from rfl,hf]
 rfl
end
end Go.TV
namespace Go.TV
section
variable {P:Program} {gv:Nat→Value} {n:Nat} {s s':St} {g:G} {a:Act} {w w':World} {R:Type} {E:Env R} {o:Oper}
theorem hzk {k:IntKind} {i:Int} {y:Nat} {c:BoundsCode} (h0:0≤i) (h1:i≤(y:Int)):(Instr.sliceBound (.int k i) y c).run P w= .ok i.toNat w:=by
 simp [Instr.sliceBound,asIntOf,h0,h1]
def Jzr (v:Option Value) (i:Option Int):Prop:=match i with
 |none=>v=none
 |some i=> ∃k,v=some (.int k i)
theorem ozz {b:Bool} {ln cap:Nat} {lo hi:Option Value} {li hj:Option Int} (h1:Jzr lo li) (h2:Jzr hi hj) (hc:ln≤cap) (hi0:0≤(bzT li hj ln).1) (hij:(bzT li hj ln).1≤(bzT li hj ln).2) (hjn:(bzT li hj ln).2≤(ln:Int)):
 (Instr.sliceBounds b ln cap lo hi none).run P w= .ok ((bzT li hj ln).1.toNat,(bzT li hj ln).2.toNat,cap) w:=by
 cases li with
 |none=>
  cases hj with
  |none=>
   simp only[Jzr] at h1 h2
   subst h1;subst h2
   simp [Instr.sliceBounds,bzT]
  |some j=>
   obtain ⟨k,h2⟩:=h2
   simp only[Jzr] at h1
   subst h1;subst h2
   simp only[bzT] at hi0 hij hjn⊢
   simp [Instr.sliceBounds,hzk (P:=P) (w:=w) hij (show j≤(cap:Int) by omega)]
 |some i=>
  obtain ⟨k,h1⟩:=h1
  cases hj with
  |none=>
   simp only[Jzr] at h2
   subst h1;subst h2
   simp only[bzT] at hi0 hij hjn⊢
   simp [Instr.sliceBounds,hzk (P:=P) (w:=w) hi0 hij]
  |some j=>
   obtain ⟨k',h2⟩:=h2
   subst h1;subst h2
   simp only[bzT] at hi0 hij hjn⊢
   have hj0:0≤j:=by omega
   simp [Instr.sliceBounds,hzk (P:=P) (w:=w) hj0 (show j≤(cap:Int) by omega),hzk (P:=P) (w:=w) hi0 (show i≤((j.toNat:Nat):Int) by omega)]
theorem Czw (h:Rel E.gl gv n s g a w) (hgv: ∀i,a.eval (.global i)=gv i) {lo:Option Operand} {li:Option Int} (e:qzz s (lo.map (TV.opd E 0 s))=some li):Jzr (lo.map a.eval) li:=by
 cases lo with
 |none=>simp only[Option.map_none,qzz] at e;cases e;rfl
 |some x=>
  simp only[Option.map_some,qzz] at e
  split at e
  ·rename_i k m i hr
   cases e
   exact ⟨k,by simp [h.int hgv hr]⟩
  ·cases e
theorem Lz8 {α:Type} {xs:List α} {i j:Int} {k:Nat} {x:α} (h:(sub xs i j)[k]?=some x):xs[i.toNat+k]?=some x∧i.toNat+k<j.toNat:=by
 unfold sub at h
 rw[List.getElem?_drop] at h
 have hlt:i.toNat+k<j.toNat:=by
  rcases Nat.lt_or_ge (i.toNat+k) j.toNat with h'|h'
  ·exact h'
  ·rw[List.getElem?_eq_none (by simp only[List.length_take];omega)] at h;cases h
 rw[List.getElem?_take_of_lt hlt] at h
 exact ⟨h,hlt⟩
theorem Fzp {α:Type} {xs:List α} {i j:Int} (hij:i≤j) (h0:0≤i) (h:j≤(xs.length:Int)):(sub xs i j).length=j.toNat-i.toNat:=by
 unfold sub;simp only[List.length_drop,List.length_take];omega
theorem sze {i j n:Int} (h:inb2 i j n=true):0≤i∧i≤j∧j≤n:=by
 simp only[inb2,Bool.and_eq_true,decide_eq_true_eq] at h
 exact ⟨h.1.1,h.1.2,h.2⟩
theorem Rep.sub_sh {w:World} {ω:azw} {η:Pins} {U:Ty} {xs:List U.den} {A:Option Addr} {c:Nat} {i j:Int} (h0:0≤i) (hij:i≤j) (hj:j≤(xs.length:Int)) (h:Rep w ω η (.sl U) [] .sh xs [.slice A xs.length c]):
 Rep w ω η (.sl U) [] .sh (sub xs i j) [.slice (if c=i.toNat then A else A.map (·.add (i.toNat*U.sz))) (j.toNat-i.toNat) (c-i.toNat)]:=by
 obtain ⟨A',c',e,hc,hel⟩:=h
 simp only[List.cons.injEq,Value.slice.injEq,and_true,true_and] at e
 obtain ⟨rfl,rfl⟩:=e
 refine ⟨_,_,by rw[Fzp hij h0 hj],by rw[Fzp hij h0 hj];omega,fun k x hx=>?_⟩
 obtain ⟨h1,h2⟩:=Lz8 hx
 obtain ⟨ad,row,h3,h4,h5,h6,h7,h8⟩:=hel _ _ h1
 have hne: ¬c=i.toNat:=by
  have:i.toNat+k<xs.length:=by
   rcases Nat.lt_or_ge (i.toNat+k) xs.length with h|h
   ·exact h
   ·rw[List.getElem?_eq_none h] at h1;cases h1
  omega
 obtain ⟨ab,ao,asp⟩:=ad
 simp only at h4 h5 h7
 subst h4
 refine ⟨⟨ab,ao+i.toNat*U.sz,none⟩,row,by rw[if_neg hne,h3];simp [ezV],rfl,h5,h6,?_,h8⟩
 simp only
 rw[Nat.add_assoc,←Nat.add_mul];exact h7
theorem Rep.sub_own {w:World} {ω:azw} {η:Pins} {U:Ty} {pa:Path} {me:Mk} {xs:List U.den} {A:Option Addr} {c:Nat} {j:Int} (h0:0≤j) (hj:j≤(xs.length:Int)) (h:Rep w ω η (.sl U) pa (.own 0 me) xs [.slice A xs.length c]):
 Rep w ω η (.sl U) pa (.own 0 me) (sub xs 0 j) [.slice A j.toNat c]:=by
 obtain ⟨A',c',e,hp,hh⟩:=h
 simp only[List.cons.injEq,Value.slice.injEq,and_true,true_and] at e
 obtain ⟨rfl,rfl⟩:=e
 have hl:(sub xs 0 j).length=j.toNat:=by rw[Fzp h0 (Int.le_refl 0) hj];simp
 refine ⟨A,c,by rw[hl],fun h=>absurd rfl h,?_⟩
 rcases hh with ⟨h1,h2,h3⟩| ⟨r,cells,el,fr,h1,h2,h3,h4,h5,h6,h7⟩
 ·subst h2;exact .inl ⟨h1,by simp [sub],h3⟩
 ·refine .inr ⟨r,cells,el,fr,h1,h2,h3,h4,h5,by rw[hl];omega,fun k x hx=>?_⟩
  obtain ⟨h8,_⟩:=Lz8 hx
  rw[show (0:Int).toNat+k=k by simp] at h8
  exact h7 k x h8
theorem Izd (h:Rel E.gl gv n s g a w) (hgv: ∀i,a.eval (.global i)=gv i) (hT: ∀t T,E.tt t=some T→TyOk P T t) {t:Nat} {x:Operand} {lo hi mx:Option Operand} {ev:Ev} (hop:o.op= .slice t x lo hi mx)
 (e:tzI E s x t (lo.map (TV.opd E 0 s)) (hi.map (TV.opd E 0 s)) (mx.map (TV.opd E 0 s))=some ev):Does P E gv n g a w o ev:=by
 unfold tzI at e
 cases mx with
 |some _=>cases e
 |none=>
  simp only[Option.map_none] at e
  cases hlo:qzz s (lo.map (TV.opd E 0 s)) with
  |none=>simp only[hlo] at e;cases e
  |some li=>
   cases hhi:qzz s (hi.map (TV.opd E 0 s)) with
   |none=>simp only[hlo,hhi] at e;cases e
   |some hj=>
    simp only[hlo,hhi] at e
    have b1:=Czw h hgv hlo
    have b2:=Czw h hgv hhi
    obtain ⟨pa,cs,hrv⟩:=h.opd' hgv t x
    have hrunS: ∀ (U:Ty) (A:Option Addr) (N c:Nat),E.tt t=some (.sl U)→a.eval x= .slice A N c→N≤c→0≤(bzT li hj N).1→(bzT li hj N).1≤(bzT li hj N).2→(bzT li hj N).2≤(N:Int)→
     (execOp a.eval o).run P w= .ok (.value (.slice (if c=(bzT li hj N).1.toNat then A else A.map (·.add ((bzT li hj N).1.toNat*U.sz))) ((bzT li hj N).2.toNat- (bzT li hj N).1.toNat) (c- (bzT li hj N).1.toNat))) w:=by
     intro U A N c ht hv hc c1 c2 c3
     have h1:=hT _ _ ht
     simp only[TyOk] at h1
     obtain ⟨_,el,h2,h3⟩:=h1
     simp [execOp,hop,Instr.sliceAt,Instr.slice,azg h2,hv,ozz (P:=P) (w:=w) (b:=true) b1 b2 hc c1 c2 c3,h3.b.run_sizeOf]
    split at e
    ·rename_i m y ht hr
     cases e
     intro hb
     obtain ⟨c1,c2,c3⟩:=sze hb
     have h1:=hT _ _ ht
     simp only[TyOk] at h1
     refine ⟨_,w, .inl ?_,Gave.str h⟩
     have hv:=h.str hgv hr
     simp only[ssz] at c1 c2 c3
     simp [execOp,hop,Instr.sliceAt,Instr.slice,azg h1.2,hv,ozz (P:=P) (w:=w) (b:=false) b1 b2 (Nat.le_refl _) c1 c2 c3,ssub,ssz]
    ·rename_i U' U m xs ht hr
     cases hc:isTy U' U<;>simp only[hc,cond_false,cond_true] at e
     ·cases e
     have hTe:=bzD hc
     subst hTe
     obtain ⟨hm,pa',cs',hrep,hv⟩:=h.res hrv _ _ _ hr
     have hsh: ∀ (s2:St) (g2:G) (zs:List U'.den),Rel E.gl gv n s2 g2 a w→g2.η=g.η→(azJ w w g.ω g2.ω∧Far w w g.ω g2.ω)→(∃cs,Rep w g2.ω g2.η (.sl U') [] .sh zs cs∧a.eval x=mkV (.sl U') cs)→
      Does P E gv n g a w o (.chk (inb2 (bzT li hj (len zs)).1 (bzT li hj (len zs)).2 (len zs)) (.v (.sl U') .sh (sub zs (bzT li hj (len zs)).1 (bzT li hj (len zs)).2)) s2):=by
      rintro s2 g2 zs hs2 hη hst ⟨cs2,hrep2,hv2⟩ hb
      obtain ⟨c1,c2,c3⟩:=sze hb
      obtain ⟨A,c,e1⟩:=szR hrep2 (by simp)
      subst e1
      have hle:zs.length≤c:=by
       obtain ⟨A',c',e2,h9,_⟩:=hrep2
       simp only[List.cons.injEq,Value.slice.injEq,and_true,true_and] at e2
       obtain ⟨_,rfl⟩:=e2
       exact h9
      have hrep3:=Rep.sub_sh c1 c2 c3 hrep2
      refine ⟨_,w, .inl (hrunS U' A zs.length c ht hv2 hle c1 c2 c3),g2,_,0,hs2,hη,⟨Rep.sh_mono (azJ.refl _ _) _ _ _ _ _ hrep3,rfl⟩,Evo.same hst.1 hst.2⟩
     have hown:(match li with
      |none=>match TV.grab E s x (TV.opd E t s x) with
       |some (.v (.sl e) (.own 0 m) xs,s)=>match bzT none hj (len xs) with
        | (i,j)=>some (Ev.chk (inb2 i j (len xs)) (.v (.sl e) (.own 0 m) (sub xs i j)) s)
       |_=>none
      |some lo=>match (match TV.opd E t s x,x with
       | .ref p,_=>(match s.get p with|some (a,_)=>some (VV.v p.t .sh a,s.frz p a)|none=>none)
       | .v t m a, .tmp u=>(bif m.all&&!m.isSh then some (.v t .sh a,s.frz ⟨false,u,0,t⟩ a) else none)
       |_,_=>none) with
       |some (.v (.sl e) .sh xs,s)=>bif isTy U' e then (match bzT (some lo) hj (len xs) with
        | (i,j)=>some (.chk (inb2 i j (len xs)) (.v (.sl e) .sh (sub xs i j)) s)) else none
       |_=>none)=some ev→Does P E gv n g a w o ev:=by
      intro e
      cases li with
      |none=>
       simp only at e
       split at e
       ·rename_i e2 m2 ys s1 he
        cases e
        intro hb
        obtain ⟨c1,c2,c3⟩:=sze hb
        obtain ⟨T,m3,y,g1,hW,ht2⟩:=h.grab (h.opF hgv 0 t x) he
        cases hW
        obtain ⟨cs2,hrep2,hv2⟩:=ht2.rep
        obtain ⟨A,c,e1⟩:=szR hrep2 (by simp)
        subst e1
        have hle:(ys:List e2.den).length≤c:=by
         obtain ⟨A',c',e3,_,hh⟩:=hrep2
         simp only[List.cons.injEq,Value.slice.injEq,and_true,true_and] at e3
         obtain ⟨rfl,rfl⟩:=e3
         rcases hh with ⟨_,h9,_⟩| ⟨r,cells,el,fr,_,_,_,_,_,h9,_⟩
         ·subst h9;simp
         ·exact h9
        have hb0:(bzT none hj (len (ys:List e2.den))).1=0:=rfl
        have hrun:=hrunS U' A (ys:List e2.den).length c ht hv2 hle c1 c2 c3
        have hA: ∀ (q:Prop) [Decidable q],(if q then A else A.map (fun ad=>ad.add (0*U'.sz)))=A:=by
         intro q _
         split
         ·rfl
         ·cases A<;>simp [Addr.add]
        have e0:(bzT none hj ((ys:List e2.den).length:Int)).1=0:=rfl
        rw[e0] at hrun
        simp only[Int.toNat_zero,hA,Nat.sub_zero] at hrun
        have hrep3:=Rep.sub_own (by rw[hb0] at c2;exact c2) c3 hrep2
        exact ⟨_,w, .inl hrun,g1,_,0,ht2.rel,ht2.η,⟨hrep3,rfl⟩,Evo.fl ht2.fl⟩
       ·cases e
      |some l=>
       simp only at e
       split at e
       ·rename_i e2 ys s1 he
        cases hc2:isTy U' e2<;>simp only[hc2,cond_false,cond_true] at e
        ·cases e
        have:=bzD hc2
        subst this
        cases e
        have key: ∀ (p:Pl) (y:p.t.den) (m:Mk),s.get p=some (y,m)→m≠ .sh→m.all=true→a.eval x=mkV p.t (g.cells p)→some (VV.v p.t .sh y,s.frz p y)=some (.v (.sl U') .sh ys,s1)→
         Does P E gv n g a w o (.chk (inb2 (bzT (some l) hj (len ys)).1 (bzT (some l) hj (len ys)).2 (len ys)) (.v (.sl U') .sh (sub ys (bzT (some l) hj (len ys)).1 (bzT (some l) hj (len ys)).2)) s1):=by
         intro p y m hg hs ha hv he
         obtain ⟨g1,ht2⟩:=h.tookFrz hg hs ha 0
         obtain ⟨pb,pn,po,pt⟩:=p
         simp only[Option.some.injEq,Prod.mk.injEq,VV.v.injEq,true_and] at he
         obtain ⟨⟨he1,he2⟩,he3⟩:=he
         subst he1
         simp only[heq_eq_eq] at he2
         subst he2;subst he3
         obtain ⟨cs2,hrep2,hv2⟩:=ht2.rep
         exact hsh _ g1 y ht2.rel ht2.η ⟨ht2.fl.1,ht2.fl.far⟩ ⟨cs2,Rep.sh_mono (azJ.refl _ _) _ _ _ _ _ hrep2,hv.trans hv2⟩
        have hx:=h.opF hgv 0 t x
        generalize hWW:TV.opd E t s x=W at*
        split at he
        ·rename_i p
         obtain ⟨hv2,y,m4,hg,ha,hs⟩:=hrv
         rw[hg] at he
         exact key p y m4 hg hs ha hv2 he
        ·rename_i T m4 y u
         rcases hx with ⟨u',hu',hu⟩| ⟨hx,_⟩
         ·cases hu'
          cases ha:(m4.all&&!m4.isSh)<;>simp only[ha,cond_false,cond_true] at he
          ·cases he
          simp only[Bool.and_eq_true,Bool.not_eq_true'] at ha
          have hcs:=h.tm u
          rw[←hu] at hcs
          refine key ⟨false,u,0,T⟩ y m4 (nzj hu.symm) (by rintro rfl;cases ha.2) ha.1 ?_ he
          rw[jz3 h hu.symm];exact hcs.2
         ·exact absurd rfl (hx u)
        ·cases he
       ·cases e
     cases m with
     |no=>exact absurd rfl hm
     |sh=>
      cases e
      exact hsh s g xs h rfl ⟨azJ.refl _ _,Far.refl _ _⟩ ⟨cs',Rep.sh_mono (azJ.refl _ _) _ _ _ _ _ hrep,hv⟩
     |own pin me=>exact hown e
     |pr _ _=>exact hown e
    ·cases e
end
end Go.TV
namespace Go.TV
section
variable {P:Program} {gv:Nat→Value} {n:Nat} {s s':St} {g:G} {a:Act} {w w':World} {R:Type} {E:Env R} {o:Oper}
theorem qzE {d:Nat} {t:TypeId} (h:P.underlying t=some .bool) {x y:Bool}:(Op.equalIn (d+1) t (.bool x) (.bool y)).run P w= .ok (x==y) w:=by
 simp [Op.equalIn,azg h]
theorem AzZ {d:Nat} {t:TypeId} {k:IntKind} (h:P.underlying t=some (.int k)) {x y:Int}:(Op.equalIn (d+1) t (.int k x) (.int k y)).run P w= .ok (x==y) w:=by
 simp [Op.equalIn,azg h]
theorem Bz0 {d:Nat} {t:TypeId} (h:P.underlying t=some .string) {x y:ByteArray}:(Op.equalIn (d+1) t (.string x) (.string y)).run P w= .ok (x==y) w:=by
 simp [Op.equalIn,azg h]
theorem Dzs (h:Rel E.gl gv n s g a w) (hT: ∀t T,E.tt t=some T→TyOk P T t) {op:BinOp} {t yt:Nat} {x y:Operand} {p q:Bool} {ev:Ev} (hx:a.eval x= .bool p) (hy:a.eval y= .bool q)
 (e:(match E.tt t,op with
  |some .bool, .eql=>some (Ev.ok (.v .bool .sh (beqB p q)) s)
  |some .bool, .neq=>some (.ok (.v .bool .sh (bneB p q)) s)
  |_,_=>none)=some ev) (hop:o.op= .binOp op t x y yt):Does P E gv n g a w o ev:=by
 cases ht:E.tt t with
 |none=>simp only[ht] at e;cases e
 |some T=>
  simp only[ht] at e
  cases T with
  |bool=>
   have h1:=hT _ _ ht
   simp only[TyOk] at h1
   have he:=qzE (w:=w) (d:=9999) h1.2 (x:=p) (y:=q)
   cases op<;>simp only[Option.some.injEq,reduceCtorEq] at e
   ·subst e
    refine .pure ?_ (Gave.bool h)
    simp only[execOp,hop,hx,hy,Sem.run_bind,uzO,Result.andThen_ok,binOp,Op.equal,Op.maxDepth,he,Sem.run_pure]
    rfl
   ·subst e
    refine .pure ?_ (Gave.bool h)
    simp only[execOp,hop,hx,hy,Sem.run_bind,uzO,Result.andThen_ok,binOp,Op.equal,Op.maxDepth,he,Sem.run_pure]
    rfl
  |_=>cases op<;>cases e
end
end Go.TV
namespace Go.TV
section
variable {P:Program} {gv:Nat→Value} {n:Nat} {s s':St} {g:G} {a:Act} {w w':World} {R:Type} {E:Env R} {o:Oper}
theorem zzb {x:Int} (h0:0≤x) (h1:x≤1099511627776):IntKind.i64.wrap x=x:=by
 have h2:x % 18446744073709551616=x:=Int.emod_eq_of_lt h0 (by omega)
 simp only[IntKind.wrap,IntKind.bits,show (2^64:Int)=18446744073709551616 from rfl,h2]
 rw[if_neg]
 simp only[Bool.and_eq_true,decide_eq_true_eq,not_and,IntKind.signed]
 intro _
 simp only[show (2^ (64-1):Int)=9223372036854775808 from rfl]
 omega
theorem QzP {x:Int} {sz:Nat} (h0:0≤x) (h:fits x sz=true):x≤1099511627776∧x*sz≤1099511627776:=by
 rw[rzZ h0] at h
 rw[Int.natCast_add,Int.mul_add] at h
 have h1:0≤x*(sz:Int):=Int.mul_nonneg h0 (by omega)
 simp at h
 constructor<;>omega
theorem wz1 {l:List Value} (hl:l≠ []): ∀ (n:Nat),((Array.range (n*l.length)).map (fun i=>l.toArray[i % l.toArray.size]!)).toList=(List.replicate n l).flatten:=by
 intro n
 refine List.ext_getElem? fun i=>?_
 have hpos:0<l.length:=List.length_pos_iff.2 hl
 have hlen:((List.replicate n l).flatten).length=n*l.length:=by simp [List.length_flatten]
 by_cases hi:i<n*l.length
 ·have hd:i/l.length<n:=(Nat.div_lt_iff_lt_mul hpos).2 hi
  have hf:=mzE (l:=l) (sz:=l.length) rfl n (i/l.length) hd
  have hm:i % l.length<l.length:=Nat.mod_lt _ hpos
  have h1:((List.replicate n l).flatten)[i]?=l[i % l.length]?:=by
   have h2:(((List.replicate n l).flatten.drop (i/l.length*l.length)).take l.length)[i % l.length]?=l[i % l.length]?:=by rw[hf]
   rw[List.getElem?_take_of_lt hm,List.getElem?_drop] at h2
   rw[←h2]
   congr 1
   have:=Nat.div_add_mod i l.length
   rw[Nat.mul_comm] at this;exact this.symm
  rw[h1]
  simp [hi,hm]
 ·rw[List.getElem?_eq_none (by simp;omega),List.getElem?_eq_none (by omega)]
theorem yzM (h:Rel E.gl gv n s g a w) (hgv: ∀i,a.eval (.global i)=gv i) {t:Nat} {U:Ty} {ln cp:Operand} {k k':IntKind} {N c:Int} (hT:TyOk P (.sl U) t) (hop:o.op= .makeSlice t ln cp) (hN:a.eval ln= .int k N) (hc:a.eval cp= .int k' c):
 Does P E gv n g a w o (.chk (both (inb2 0 N c) (fits c U.sz)) (.v (.sl U) (.own 0 U.full) (rep N U.zero)) s):=by
 intro hb
 simp only[both,Bool.and_eq_true] at hb
 obtain ⟨_,h0,hNc⟩:=sze hb.1
 obtain ⟨hc1,hc2⟩:=QzP (by omega) hb.2
 simp only[TyOk] at hT
 obtain ⟨_,el,h2,h3⟩:=hT
 obtain ⟨i,i1,i2,i3,i4⟩:=h3.b
 have wN:=zzb h0 (by omega)
 have wc:=zzb (x:=c) (by omega) hc1
 have hzok:=dzr U
 have hz:=ezP hzok.1 hzok.2
 have hbytes:(i.bytes:Int)*c≤281474976710656:=by
  have:(i.bytes:Int)≤24*(U.sz:Int):=by omega
  have h5:(i.bytes:Int)*c≤24*(U.sz:Int)*c:=Int.mul_le_mul_of_nonneg_right this (by omega)
  have h6:24*(U.sz:Int)*c=24*(c*(U.sz:Int)):=by rw[Int.mul_assoc,Int.mul_comm (U.sz:Int) c]
  omega
 let cells:Array Value:=(Array.range (c.toNat*U.sz)).map ((if c.toNat*U.sz=0 then #[] else (azO U).toArray)[· % (if c.toNat*U.sz=0 then #[] else (azO U).toArray).size]!)
 have hcs:cells.size=c.toNat*U.sz:=by simp [cells]
 have hce:cells.toList=(List.replicate c.toNat (azO U)).flatten:=by
  by_cases hz0:c.toNat*U.sz=0
  ·have:cells.toList=[]:=List.length_eq_zero_iff.1 (by rw[Array.length_toList,hcs,hz0])
   rw[this]
   symm
   apply List.length_eq_zero_iff.1
   simp [List.length_flatten,hzok.1,hz0]
  ·have hne:azO U≠ []:=by
    intro e
    have:=hzok.1
    rw[e] at this
    simp at this
    rw[←this] at hz0
    simp at hz0
   have:=wz1 hne c.toNat
   rw[hzok.1] at this
   simp only[cells,if_neg hz0]
   exact this
 have hrun:(execOp a.eval o).run P w= .ok (.value (.slice (some ⟨w.heap.size,0,none⟩) N.toNat c.toNat)) {w with heap:=w.heap.push (.cells cells el)}:=by
  have g1: ¬((c<0∨(2:Int)^48<i.bytes*c)∨N<0∨c<N):=by
   have:(2:Int)^48=281474976710656:=by decide
   omega
  have e1:(typeInfo el).run P w= .ok i w:=kzv i1
  have e2:=h3.b.run_sizeOf (w:=w)
  have e3:=h3.b.run_zero (w:=w)
  simp only[execOp,hop,Instr.makeSlice,Sem.run_bind,azg h2,Result.andThen_ok,hN,hc,asInt,asIntOf,Sem.run_pure,e1,wN,wc]
  rw[if_neg (by simp only[Bool.or_eq_true,decide_eq_true_eq];have:(2:Int)^48=281474976710656:=by decide
                omega)]
  by_cases hz0:c.toNat*U.sz=0
  ·simp [e2,hz0,cells,newRow,Sem.run_bind]
  ·simp [e2,e3,hz0,hz,cells,newRow,Sem.run_bind]
 refine ⟨_,_, .inl hrun,?_⟩
 have hl:(rep N U.zero).length=N.toNat:=by simp [rep]
 rw[←hl]
 refine Gave.fresh h rfl rfl rfl rfl hcs (mzs _) (by rw[hl];omega) fun j x hx=>?_
 simp only[rep,List.getElem?_replicate] at hx
 split at hx
 ·cases hx
  rw[hce,mzE hzok.1 c.toNat j (by omega)]
  exact Rep.zero U _
 ·cases hx
end
end Go.TV
namespace Go.TV
section
variable {P:Program} {gv:Nat→Value} {n:Nat} {s s':St} {g:G} {a:Act} {w w':World} {R:Type} {E:Env R} {o:Oper}
theorem Mzl (x y:ByteArray):(x==y)=(x.toList==y.toList):=by
 rw[ByteArray.toList_eq,ByteArray.toList_eq]
 show (x.data==y.data)=_
 by_cases h:x.data=y.data
 ·rw[h];simp
 ·have h2:x.data.toList≠y.data.toList:=fun e=>h (Array.toList_inj.1 e)
  simp [h,h2]
def deep:Ty→Nat
 | .prod a b=>max (deep a+1) (deep b)
 |_=>0
theorem Hzr {A B:Ty} {x y:(Ty.prod A B).den} {r:Bool} (h:teq (.prod A B) x y=some r): ∃p q,teq A x.1 y.1=some p∧teq B x.2 y.2=some q∧r=(p&&q):=by
 simp only[teq] at h
 split at h
 ·rename_i p q hp hq
  cases h
  exact ⟨p,q,hp,hq,rfl⟩
 ·cases h
abbrev wzF (P:Program) (d:Nat) (xs ys:Array Value) (f:Field) (st:Option Bool×Unit):Sem (ForInStep (Option Bool×Unit)):=
 if f.name≠ "_" then do
  let u←part f.type xs f.offset
  let v←part f.type ys f.offset
  let b←Op.equalIn d f.type u v
  if (!b)=true then pure (ForInStep.done (some false,())) else pure (ForInStep.yield (none,()))
 else pure (ForInStep.yield (none,()))
theorem zzx {d:Nat} {f:Field} {A:Ty} {c1 c2:List Value} {o:Nat} {p:Bool} {st:Option Bool×Unit} (hn:f.name≠ "_") (ho:f.offset=o) (hT:TyOk P A f.type) (h1:o+A.sz≤c1.length) (h2:o+A.sz≤c2.length)
 (he:(Op.equalIn d f.type (mkV A ((c1.drop o).take A.sz)) (mkV A ((c2.drop o).take A.sz))).run P w= .ok p w):
 (wzF P d c1.toArray c2.toArray f st).run P w= .ok (if p then .yield (none,()) else .done (some false,())) w:=by
 have e1:=hT.run_part (w:=w) h1
 have e2:=hT.run_part (w:=w) h2
 unfold wzF
 rw[if_pos hn]
 simp only[Sem.run_bind,ho,e1,e2,Result.andThen_ok,he]
 cases p<;>simp
mutual
theorem Mzs: ∀ (T:Ty) (t:TypeId) (d:Nat) (x y:T.den) (cs cs':List Value) (r:Bool) (ω:azw) (η:Pins),TyOk P T t→T.sz≠0→deep T<d+1→teq T x y=some r→Rep w ω η T [] .sh x cs→Rep w ω η T [] .sh y cs'→
 (Op.equalIn (d+1) t (mkV T cs) (mkV T cs')).run P w= .ok r w
 | .int k,t,d,x,y,cs,cs',r,ω,η,hT,hsz,hd,he,hx,hy=>by
   simp only[TyOk] at hT
   have e1:cs=[.int k x]:=hx
   have e2:cs'=[.int k y]:=hy
   subst e1;subst e2
   cases he
   exact AzZ hT.2
 | .bool,t,d,x,y,cs,cs',r,ω,η,hT,hsz,hd,he,hx,hy=>by
   simp only[TyOk] at hT
   have e1:cs=[.bool x]:=hx
   have e2:cs'=[.bool y]:=hy
   subst e1;subst e2
   cases he
   exact qzE hT.2
 | .str,t,d,x,y,cs,cs',r,ω,η,hT,hsz,hd,he,hx,hy=>by
   simp only[TyOk] at hT
   have e1:cs=[.string x]:=hx
   have e2:cs'=[.string y]:=hy
   subst e1;subst e2
   cases he
   have:=Bz0 (w:=w) (d:=d) hT.2 (x:=x) (y:=y)
   rw[Mzl] at this
   exact this
 | .unit,t,d,x,y,cs,cs',r,ω,η,hT,hsz,hd,he,hx,hy=>absurd rfl hsz
 | .prod A B,t,d,x,y,cs,cs',r,ω,η,hT,hsz,hd,he,hx,hy=>by
   have l1:=Rep.length _ _ _ _ _ hx
   have l2:=Rep.length _ _ _ _ _ hy
   simp only[TyOk] at hT
   obtain ⟨_,f,fs,h1,_,h2,h3,h4,h5,h6,h7⟩:=hT
   obtain ⟨p,q,e1,e2,rfl⟩:=Hzr he
   obtain ⟨_,c1,c2,rfl,hx1,hx2⟩:=hx
   obtain ⟨_,c1',c2',rfl,hy1,hy2⟩:=hy
   have m1:=Rep.length _ _ _ _ _ hx1
   have m2:=Rep.length _ _ _ _ _ hy1
   have m3:=Rep.length _ _ _ _ _ hx2
   have m4:=Rep.length _ _ _ _ _ hy2
   cases d with
   |zero=>simp only[deep] at hd;omega
   |succ d=>
    have hA:=Mzs A f.type d x.1 y.1 c1 c1' p ω η h6 h5 (by simp only[deep] at hd;omega) e1 (Rep.sh_mono (azJ.refl _ _) _ _ _ _ _ hx1) (Rep.sh_mono (azJ.refl _ _) _ _ _ _ _ hy1)
    have hB:=Hzm B fs A.sz (d+1) x.2 y.2 (c1++c2) (c1'++c2') q ω η h7 (by simp only[deep] at hd;omega) e2
     (by rw[←m1,List.drop_left];exact Rep.sh_mono (azJ.refl _ _) _ _ _ _ _ hx2) (by rw[←m2,List.drop_left];exact Rep.sh_mono (azJ.refl _ _) _ _ _ _ _ hy2) (by simp;omega) (by simp;omega)
    have t1:((c1++c2).drop 0).take A.sz=c1:=by rw[List.drop_zero,←m1,List.take_left]
    have t2:((c1'++c2').drop 0).take A.sz=c1':=by rw[List.drop_zero,←m2,List.take_left]
    have hb:=fun st=>zzx (w:=w) (d:=d+1) (f:=f) (c1:=c1++c2) (c2:=c1'++c2') (o:=0) (p:=p) (st:=st) h4 h3 h6 (by simp;omega) (by simp;omega) (by rw[t1,t2];exact hA)
    have hloop:(forIn (f::fs) (none,()) (wzF P (d+1) (c1++c2).toArray (c1'++c2').toArray)).run P w= .ok (if (p&&q) then (none,()) else (some false,())) w:=by
     rw[List.forIn_cons]
     simp only[Sem.run_bind,hb,Result.andThen_ok]
     cases p
     ·simp
     ·simp only[if_true,Bool.true_and];exact hB
    have hl2:(forIn (⟨f::fs⟩:Array Field) (none,()) (wzF P (d+1) (c1++c2).toArray (c1'++c2').toArray)).run P w= .ok (if (p&&q) then (none,()) else (some false,())) w:=by
     rw[List.forIn_toArray];exact hloop
    rw[Op.equalIn]
    simp only[mkV,isAgg,if_true,Sem.run_bind,azg h1,Result.andThen_ok,run_program,h2,Bool.false_eq_true,if_false]
    have h10:(forIn (⟨f::fs⟩:Array Field) ((none:Option Bool),()) fun f (st:Option Bool×Unit)=>wzF P (d+1) (c1++c2).toArray (c1'++c2').toArray f st).run P w= .ok (if (p&&q) then (none,()) else (some false,())) w:=hl2
    dsimp only[wzF] at h10
    rw[h10]
    cases (p&&q)<;>simp
 | .sl _,_,_,_,_,_,_,_,_,_,_,_,_,he,_,_=>by cases he
 | .item,_,_,_,_,_,_,_,_,_,_,_,_,he,_,_=>by cases he
 | .arr _ _,_,_,_,_,_,_,_,_,_,_,_,_,he,_,_=>by cases he
theorem Hzm: ∀ (T:Ty) (fs:List Field) (o d:Nat) (x y:T.den) (c1 c2:List Value) (r:Bool) (ω:azw) (η:Pins),FlOk P T fs o→deep T<d+1→teq T x y=some r→Rep w ω η T [] .sh x (c1.drop o)→Rep w ω η T [] .sh y (c2.drop o)→o≤c1.length→o≤c2.length→
 (forIn fs (none,()) (wzF P d c1.toArray c2.toArray)).run P w= .ok (if r then (none,()) else (some false,())) w
 | .unit,fs,o,d,x,y,c1,c2,r,ω,η,hT,hd,he,hx,hy,_,_=>by
   simp only[FlOk] at hT
   subst hT
   cases he
   simp
 | .prod A B,fs,o,d,x,y,c1,c2,r,ω,η,hT,hd,he,hx,hy,l1,l2=>by
   simp only[FlOk] at hT
   obtain ⟨f,rest,rfl,h2,h3,h4,h5,h6⟩:=hT
   obtain ⟨p,q,e1,e2,rfl⟩:=Hzr he
   obtain ⟨_,d1,d2,q1,hx1,hx2⟩:=hx
   obtain ⟨_,d1',d2',q2,hy1,hy2⟩:=hy
   have m1:=Rep.length _ _ _ _ _ hx1
   have m2:=Rep.length _ _ _ _ _ hy1
   have n1:c1.length-o=d1.length+d2.length:=by rw[←List.length_drop,q1,List.length_append]
   have n2:c2.length-o=d1'.length+d2'.length:=by rw[←List.length_drop,q2,List.length_append]
   cases d with
   |zero=>simp only[deep] at hd;omega
   |succ d=>
    have hA:=Mzs A f.type d x.1 y.1 d1 d1' p ω η h5 h4 (by simp only[deep] at hd;omega) e1 (Rep.sh_mono (azJ.refl _ _) _ _ _ _ _ hx1) (Rep.sh_mono (azJ.refl _ _) _ _ _ _ _ hy1)
    have k1:c1.drop (o+A.sz)=d2:=by rw[←List.drop_drop,q1,←m1,List.drop_left]
    have k2:c2.drop (o+A.sz)=d2':=by rw[←List.drop_drop,q2,←m2,List.drop_left]
    have hB:=Hzm B rest (o+A.sz) (d+1) x.2 y.2 c1 c2 q ω η h6 (by simp only[deep] at hd;omega) e2
     (by rw[k1];exact Rep.sh_mono (azJ.refl _ _) _ _ _ _ _ hx2) (by rw[k2];exact Rep.sh_mono (azJ.refl _ _) _ _ _ _ _ hy2) (by omega) (by omega)
    have t1:(c1.drop o).take A.sz=d1:=by rw[q1,←m1,List.take_left]
    have t2:(c2.drop o).take A.sz=d1':=by rw[q2,←m2,List.take_left]
    have hb:=fun st=>zzx (w:=w) (d:=d+1) (f:=f) (c1:=c1) (c2:=c2) (o:=o) (p:=p) (st:=st) h3 h2 h5 (by omega) (by omega) (by rw[t1,t2];exact hA)
    rw[List.forIn_cons]
    simp only[Sem.run_bind,hb,Result.andThen_ok]
    cases p
    ·simp
    ·simp only[if_true,Bool.true_and];exact hB
 | .int _,_,_,_,_,_,_,_,_,_,_,h,_,_,_,_,_,_=>by simp [FlOk] at h
 | .bool,_,_,_,_,_,_,_,_,_,_,h,_,_,_,_,_,_=>by simp [FlOk] at h
 | .str,_,_,_,_,_,_,_,_,_,_,h,_,_,_,_,_,_=>by simp [FlOk] at h
 | .sl _,_,_,_,_,_,_,_,_,_,_,h,_,_,_,_,_,_=>by simp [FlOk] at h
 | .item,_,_,_,_,_,_,_,_,_,_,h,_,_,_,_,_,_=>by simp [FlOk] at h
 | .arr _ _,_,_,_,_,_,_,_,_,_,_,h,_,_,_,_,_,_=>by simp [FlOk] at h
end
end
end Go.TV
namespace Go.TV
section
variable {P:Program} {gv:Nat→Value} {n:Nat} {s s':St} {g:G} {a:Act} {w w':World} {R:Type} {E:Env R} {o:Oper}
theorem Qzf (s:St) (W:VV):s.res (s.res W)=s.res W:=by
 have hk: ∀t m x,s.res (VV.kn (.v t m x))=VV.kn (.v t m x):=by intro t m x;cases m<;>rfl
 cases W with
 |ref p=>
  cases hg:s.get p with
  |none=>simp only[St.res,hg,VV.kn]
  |some ym=>
   have:s.res (.ref p)=VV.kn (.v p.t ym.2 ym.1):=by simp only[St.res,hg]
   rw[this];exact hk _ _ _
 |sref p i o t=>
  obtain ⟨bx,n,q,T⟩:=p
  cases T with
  |sl U=>
   cases hg:s.get ⟨bx,n,q, .sl U⟩ with
   |none=>simp only[St.res,hg,VV.kn]
   |some ym=>
    cases hy:getAt t U o (rd U.zero ym.1 i) with
    |none=>simp only[St.res,hg,hy,VV.kn]
    |some y=>
     have:s.res (.sref ⟨bx,n,q, .sl U⟩ i o t)=VV.kn (.v t (azM t U o ym.2.e) y):=by simp only[St.res,hg,hy]
     rw[this];exact hk _ _ _
  |_=>simp only[St.res,VV.kn]
 |v t m x=>exact hk t m x
 |_=>rfl
theorem rzM (s:St) (T:Ty) (W:VV):s.peek T (s.res W)=s.peek T W:=by
 unfold St.peek;rw[Qzf]
theorem qzN (h:Rel E.gl gv n s g a w) (hgv: ∀i,a.eval (.global i)=gv i) {op:BinOp} {t yt:Nat} {A B:Ty} {x y:Operand} {p q:(Ty.prod A B).den} {m m':Mk} {r:Bool} {ev:Ev} (hT:TyOk P (.prod A B) t) (hdeep:deep (.prod A B)<10000)
 (hx:s.peek (.prod A B) (TV.opd E t s x)=some (p,m)) (hy:s.peek (.prod A B) (TV.opd E t s y)=some (q,m')) (hr:teq (.prod A B) p q=some r)
 (e:(match op with
  | .eql=>some (Ev.ok (.v .bool .sh r) s)
  | .neq=>some (.ok (.v .bool .sh (bnot r)) s)
  |_=>none)=some ev)
 (hop:o.op= .binOp op t x y yt):Does P E gv n g a w o ev:=by
 obtain ⟨pa,cs,h1⟩:=h.opd' hgv t x
 obtain ⟨pa',cs',h2⟩:=h.opd' hgv t y
 obtain ⟨a1,p1,c1,r1,v1⟩:=h.peek h1 hx
 obtain ⟨a2,p2,c2,r2,v2⟩:=h.peek h2 hy
 have hsz:(Ty.prod A B).sz≠0:=by
  simp only[TyOk] at hT
  obtain ⟨_,f,fs,_,_,_,_,_,hz,_⟩:=hT
  simp only[Ty.sz];omega
 have hg:P.eqGuardType P.depth t=false:=by
  simp only[TyOk] at hT
  obtain ⟨_,f,fs,_,hz,_⟩:=hT
  exact hz
 have hrun:=Mzs (P:=P) (w:=w) (.prod A B) t 9999 p q c1 c2 r _ _ hT hsz (by omega) hr (r1.shared a1) (r2.shared a2)
 have hgd: ∀op,(eqGuard op t x y (a.eval x) (a.eval y)).run P w= .ok () w:=by
  intro op
  rw[v1,v2]
  simp only[mkV,isAgg,if_true]
  unfold eqGuard
  cases op<;>simp [hg]
 have hb1:(Op.equal t (a.eval x) (a.eval y)).run P w= .ok r w:=by rw[v1,v2];exact hrun
 have hv: ∃u v,a.eval x= .agg u∧a.eval y= .agg v:=⟨_,_,by rw[v1];rfl,by rw[v2];rfl⟩
 obtain ⟨u,v,hu,hv⟩:=hv
 cases op<;>cases e
 ·refine .pure ?_ (Gave.bool h)
  have hg2:=hgd .eql
  rw[hu,hv] at hb1 hg2
  simp [execOp,hop,hu,hv,hg2,binOp,hb1]
 ·refine .pure ?_ (Gave.bool h)
  have hg2:=hgd .neq
  rw[hu,hv] at hb1 hg2
  simp [execOp,hop,hu,hv,hg2,binOp,hb1,bnot]
theorem rzF {d:Nat} {t U:TypeId} (h:P.underlying t=some (.slice U)) {A:Option Addr} {k c:Nat}:(Op.equalIn (d+1) t (.slice A k c) (.slice none 0 0)).run P w= .ok A.isNone w:=by
 cases A<;>simp [Op.equalIn,azg h]
theorem Iz0 (h:Rel E.gl gv n s g a w) (hgv: ∀i,a.eval (.global i)=gv i) (hT: ∀t T,E.tt t=some T→TyOk P T t) {op:BinOp} {t yt:Nat} {x y:Operand} {ev:Ev}
 (hop:o.op= .binOp op t x y yt) (hy:nilB y=true) (e:Pz4 E op t s (s.res (TV.opd E t s x))=some ev):Does P E gv n g a w o ev:=by
 have hyv:a.eval y= .slice none 0 0:=by
  unfold nilB at hy
  split at hy
  ·rfl
  ·cases hy
 unfold Pz4 at e
 have key: ∀ (U V:Ty) (m:Mk) (xs:List V.den),E.tt t=some (.sl U)→s.res (TV.opd E t s x)= .v (.sl V) m xs→ ∃A k c,a.eval x= .slice A k c∧(A=none→ieq (len xs) 0=true):=by
  intro U V m xs _ hx
  obtain ⟨pa,cs,hr⟩:=h.opd' hgv t x
  obtain ⟨hm,pa',cs',h1,h2⟩:=h.res hr _ _ _ hx
  have: ∃A c,cs'=[.slice A xs.length c]∧(A=none→xs=[]):=by
   cases m with
   |no=>exact absurd rfl hm
   |own pin me=>
    obtain ⟨A,c,e1,_,h3⟩:=h1
    refine ⟨A,c,e1,fun hA=>?_⟩
    rcases h3 with ⟨_,h3,_⟩| ⟨r,_,_,_,h3,_⟩
    ·exact h3
    ·rw[hA] at h3;cases h3
   |sh=>
    obtain ⟨A,c,e1,_,h3⟩:=h1
    refine ⟨A,c,e1,fun hA=>?_⟩
    cases xs with
    |nil=>rfl
    |cons z zs=>obtain ⟨_,_,h4,_⟩:=h3 0 z rfl;rw[hA] at h4;cases h4
   |pr _ _=>
    obtain ⟨A,c,e1,_,h3⟩:=h1
    refine ⟨A,c,e1,fun hA=>?_⟩
    cases xs with
    |nil=>rfl
    |cons z zs=>obtain ⟨_,_,h4,_⟩:=h3 0 z rfl;rw[hA] at h4;cases h4
  obtain ⟨A,c,e1,h3⟩:=this
  refine ⟨A,_,c,by rw[h2,e1];rfl,fun hA=>?_⟩
  rw[h3 hA];rfl
 have hsl: ∀U,E.tt t=some (.sl U)→ ∃u,P.underlying t=some (.slice u):=fun U ht=>by
  have h1:=hT _ _ ht
  simp only[TyOk] at h1
  obtain ⟨_,u,h2,_⟩:=h1
  exact ⟨u,h2⟩
 have hgd: ∀ (op:BinOp) (A:Option Addr) (k c:Nat),(eqGuard op t x y (.slice A k c) (.slice none 0 0)).run P w= .ok () w:=by
  intro op A k c
  unfold eqGuard;cases op<;>simp
 split at e
 ·rename_i U V m xs ht hx
  cases e
  obtain ⟨A,k,c,hv,hA⟩:=key _ _ _ _ ht hx
  obtain ⟨u,hu⟩:=hsl _ ht
  have he:=rzF (w:=w) (d:=9999) hu (A:=A) (k:=k) (c:=c)
  refine ⟨.bool A.isNone,w,A.isNone,?_, .inl ?_,Gave.bool h⟩
  ·cases A
   ·exact .inr ⟨hA rfl,rfl⟩
   ·exact .inl rfl
  ·simp only[execOp,hop,hv,hyv,Sem.run_bind,hgd,Result.andThen_ok,binOp,Op.equal,Op.maxDepth,he,Sem.run_pure]
 ·rename_i U V m xs ht hx
  cases e
  obtain ⟨A,k,c,hv,hA⟩:=key _ _ _ _ ht hx
  obtain ⟨u,hu⟩:=hsl _ ht
  have he:=rzF (w:=w) (d:=9999) hu (A:=A) (k:=k) (c:=c)
  refine ⟨.bool (!A.isNone),w,!A.isNone,?_, .inl ?_,Gave.bool h⟩
  ·cases A
   ·exact .inr ⟨hA rfl,rfl⟩
   ·exact .inl rfl
  ·simp only[execOp,hop,hv,hyv,Sem.run_bind,hgd,Result.andThen_ok,binOp,Op.equal,Op.maxDepth,he,Sem.run_pure]
 ·cases e
theorem Jzq (h:Rel E.gl gv n s g a w) (hgv: ∀i,a.eval (.global i)=gv i) (hT: ∀t T,E.tt t=some T→TyOk P T t) (hdeep: ∀t T,E.tt t=some T→deep T<10000) {op:BinOp} {t yt:Nat} {x y:Operand} {ev:Ev}
 (hop:o.op= .binOp op t x y yt) (e:Dze E op t s (TV.opd E t s x) (TV.opd E t s y)=some ev):Does P E gv n g a w o ev:=by
 unfold Dze at e
 split at e
 ·rename_i k m p k' m' q h1 h2
  have e1:=h.int hgv h1
  have e2:=h.int hgv h2
  obtain ⟨s1,s2⟩:=IzK (P:=P) h hop e1 e2
  unfold iiEv at e
  split at e
  ·cases e;exact s1 rfl
  ·cases e;exact s2 rfl
  ·split at e
   ·rename_i hk;subst hk;exact Gzl h hop e1 e2 e
   ·cases e
 ·rename_i m p m' q h1 h2
  exact Gzu h hop (h.str hgv h1) (h.str hgv h2) e
 ·rename_i m p m' q h1 h2
  unfold bbEv at e
  exact Dzs h hT (h.bool hgv h1) (h.bool hgv h2) e hop
 ·unfold prEv at e
  split at e
  ·rename_i A B ht
   split at e
   ·rename_i p m q m' h1 h2
    rw[rzM] at h1 h2
    split at e
    ·exact qzN h hgv (hT _ _ ht) (hdeep _ _ ht) h1 h2 (by assumption) (op:= .eql) e hop
    ·exact qzN h hgv (hT _ _ ht) (hdeep _ _ ht) h1 h2 (by assumption) (op:= .neq) e hop
    ·cases e
   ·cases e
  ·cases e
end
end Go.TV
namespace Go.TV
theorem Mk.le_all: ∀ {a b:Mk},a.le b=true→a.all=true→b.all=true
 | .no,_,_,h=>by cases h
 | .sh,b,h,_=>by cases b<;>first|rfl|exact h
 | .own p a, .own q b,h,ha=>by
   simp only[Mk.le] at h
   cases hq:Nat.beq p q<;>rw[hq] at h
   ·cases h
   ·exact Mk.le_all (a:=a) (b:=b) h ha
 | .pr a b, .pr c d,h,ha=>by
   simp only[Mk.le] at h
   simp only[Mk.all] at ha⊢
   cases h1:a.le c<;>rw[h1] at h
   ·cases h
   cases h2:a.all<;>rw[h2] at ha
   ·cases ha
   rw[Mk.le_all h1 h2]
   exact Mk.le_all (a:=b) (b:=d) h ha
 | .pr a b, .sh,_,_=>rfl
 | .own _ _, .sh,h,_=>by simp [Mk.le] at h
 | .own _ _, .no,h,_=>by simp [Mk.le] at h
 | .own _ _, .pr _ _,h,_=>by simp [Mk.le] at h
 | .pr _ _, .no,h,_=>by simp [Mk.le] at h
 | .pr _ _, .own _ _,h,_=>by simp [Mk.le] at h
theorem Mk.le_refl: ∀ (a:Mk),a.le a=true
 | .no=>rfl
 | .sh=>rfl
 | .own p a=>by simp [Mk.le,Mk.le_refl a]
 | .pr a b=>by simp [Mk.le,Mk.le_refl a,Mk.le_refl b]
theorem Mk.meet_all: ∀ {a b:Mk},a.all=true→b.all=true→(a.meet b).all=true
 | .sh,b,_,hb=>by cases b<;>first|rfl|cases hb
 | .own p a, .own q b,ha,hb=>by
   simp only[Mk.meet]
   cases Nat.beq p q
   ·rfl
   ·exact Mk.meet_all (a:=a) (b:=b) ha hb
 | .pr a b, .pr c d,ha,hb=>by
   simp only[Mk.all] at ha hb
   simp only[Mk.meet]
   cases h1:a.all<;>rw[h1] at ha
   ·cases ha
   cases h2:c.all<;>rw[h2] at hb
   ·cases hb
   have e1:=Mk.meet_all h1 h2
   have e2:=Mk.meet_all (a:=b) (b:=d) ha hb
   generalize a.meet c=x at*
   generalize b.meet d=y at*
   cases x<;>cases y<;>simp_all [Mk.mkpr,Mk.all]
 | .own _ _, .sh,_,_=>rfl
 | .own _ _, .pr _ _,_,_=>rfl
 | .pr _ _, .sh,_,_=>rfl
 | .pr _ _, .own _ _,_,_=>rfl
 | .no,_,h,_=>by cases h
 | .own _ _, .no,_,h=>by cases h
 | .pr _ _, .no,_,h=>by cases h
theorem Gzn {x y c d:Mk} (h1:x.le c=true) (h2:y.le d=true) (hc:c.all=true) (hd:d.all=true):(Mk.mkpr x y).le (.pr c d)=true:=by
 cases x<;>cases y<;>simp_all [Mk.mkpr,Mk.le,Mk.all]
theorem Mk.meet_le: ∀ {a b:Mk},a.all=true→b.all=true→(a.meet b).le a=true∧(a.meet b).le b=true
 | .sh,b,_,hb=>by cases b<;>simp_all [Mk.meet,Mk.le,Mk.all]
 | .own p a, .own q b,ha,hb=>by
   simp only[Mk.meet]
   cases h:Nat.beq p q
   ·exact ⟨ha,hb⟩
   ·obtain ⟨h1,h2⟩:=Mk.meet_le (a:=a) (b:=b) ha hb
    have:p=q:=Nat.eq_of_beq_eq_true h
    subst this
    simp [Mk.le,h1,h2]
 | .pr a b, .pr c d,ha,hb=>by
   simp only[Mk.all] at ha hb
   simp only[Mk.meet]
   cases h1:a.all<;>rw[h1] at ha
   ·cases ha
   cases h2:c.all<;>rw[h2] at hb
   ·cases hb
   obtain ⟨e1,e2⟩:=Mk.meet_le h1 h2
   obtain ⟨e3,e4⟩:=Mk.meet_le (a:=b) (b:=d) ha hb
   exact ⟨Gzn e1 e3 h1 ha,Gzn e2 e4 h2 hb⟩
 | .own _ _, .sh,ha,_=>⟨ha,rfl⟩
 | .own _ _, .pr _ _,ha,hb=>⟨ha,hb⟩
 | .pr _ _, .sh,ha,_=>⟨ha,rfl⟩
 | .pr _ _, .own _ _,ha,hb=>⟨ha,hb⟩
 | .no,_,h,_=>by cases h
 | .own _ _, .no,_,h=>by cases h
 | .pr _ _, .no,_,h=>by cases h
theorem Mk.meet_le_r: ∀ {a b c:Mk},a.all=true→b.all=true→b.le c=true→(a.meet b).le c=true
 | .own p a, .own q b,c,ha,hb,hc=>by
   have hc':=Mk.le_all hc hb
   simp only[Mk.meet]
   cases h:Nat.beq p q
   ·exact Mk.le_sh hc'
   ·have:p=q:=Nat.eq_of_beq_eq_true h
    subst this
    cases c with
    |own r c=>
     simp only[Mk.le] at hc⊢
     cases e:Nat.beq p r<;>rw[e] at hc
     ·cases hc
     simp only[cond_true,Mk.le,e]
     exact Mk.meet_le_r (a:=a) (b:=b) (c:=c) ha hb hc
    |_=>simp [Mk.le] at hc
 | .pr a b, .pr c d,e,ha,hb,hc=>by
   have he:=Mk.le_all hc hb
   simp only[Mk.all] at ha hb
   simp only[Mk.meet]
   cases h1:a.all<;>rw[h1] at ha
   ·cases ha
   cases h2:c.all<;>rw[h2] at hb
   ·cases hb
   cases e with
   |pr e f=>
    simp only[Mk.le] at hc
    simp only[Mk.all] at he
    cases e1:c.le e<;>rw[e1] at hc
    ·cases hc
    cases e2:e.all<;>rw[e2] at he
    ·cases he
    exact Gzn (Mk.meet_le_r h1 h2 e1) (Mk.meet_le_r (a:=b) (b:=d) ha hb hc) e2 he
   |sh=>
    simp only[Mk.le] at hc
    cases e1:c.le .sh<;>rw[e1] at hc
    ·cases hc
    have k1:=Mk.meet_le_r h1 h2 e1
    have k2:=Mk.meet_le_r (a:=b) (b:=d) ha hb hc
    generalize a.meet c=x at*
    generalize b.meet d=y at*
    cases x<;>cases y<;>simp_all [Mk.mkpr,Mk.le,Mk.all]
   |no=>cases he
   |own _ _=>simp [Mk.le] at hc
 | .sh,b,c,_,hb,hc=>by
   have:=Mk.le_all hc hb
   have e:Mk.meet .sh b= .sh:=by cases b<;>first|rfl|cases hb
   rw[e];exact Mk.le_sh this
 | .own _ _, .sh,_,_,hb,hc=>Mk.le_sh (Mk.le_all hc hb)
 | .own _ _, .pr _ _,_,_,hb,hc=>Mk.le_sh (Mk.le_all hc hb)
 | .pr _ _, .sh,_,_,hb,hc=>Mk.le_sh (Mk.le_all hc hb)
 | .pr _ _, .own _ _,_,_,hb,hc=>Mk.le_sh (Mk.le_all hc hb)
 | .no,_,_,h,_,_=>by cases h
 | .own _ _, .no,_,_,h,_=>by cases h
 | .pr _ _, .no,_,_,h,_=>by cases h
end Go.TV
namespace Go.TV
section
variable {P:Program} {gv:Nat→Value} {n:Nat} {s s':St} {g:G} {a:Act} {w w':World} {R:Type} {E:Env R} {o:Oper}
theorem rzd (hgv: ∀i,a.eval (.global i)=gv i) {ps:List (Nat×Operand)} {t:Ty}: ∀ (k i:Nat) (s s':St) (g:G) (xs:List t.den) (m:Mk),Rel E.gl gv n s g a w→nzA E t ps i k s=some (xs,m,s')→
 ∃ (g':G) (rows:List (List Value)),Held E gv n s s' g g' a w∧m.all=true∧xs.length=k∧rows.length=k∧
   ∀j x,xs[j]?=some x→ ∃row mj,rows[j]?=some row∧m.le mj=true∧Rep w g'.ω g'.η t ([3,0]++[i+j]) mj x row∧Jzs a ps t (i+j) row
 |0,i,s,s',g,xs,m,h,e=>by
  simp only[nzA] at e
  cases e
  exact ⟨g,[],Held.refl h,pzA t,rfl,rfl,fun j x hx=>by simp at hx⟩
 |k+1,i,s,s',g,xs,m,h,e=>by
  simp only[nzA] at e
  split at e
  ·rename_i x1 m1 s1 h1
   split at e
   ·rename_i r m2 s2 h2
    cases e
    obtain ⟨g1,cs,k1,a1,r1,v1⟩:=ozm h hgv [i] h1
    obtain ⟨g2,rows,k2,a2,l1,l2,hr⟩:=rzd hgv k (i+1) s1 _ g1 r m2 k1.rel h2
    refine ⟨g2,cs::rows,k1.trans k2,Mk.meet_all a1 a2,by simp [l1],by simp [l2],fun j x hx=>?_⟩
    cases j with
    |zero=>
     simp only[List.getElem?_cons_zero,Option.some.injEq] at hx
     subst hx
     exact ⟨cs,m1,rfl,(Mk.meet_le a1 a2).1,k2.rep r1,Rep.length _ _ _ _ _ r1,Rep.cellsOk _ _ _ _ _ a1 r1,v1⟩
    |succ j=>
     rw[List.getElem?_cons_succ] at hx
     obtain ⟨row,mj,h3,h4,h5,h6⟩:=hr j x hx
     have e2:i+1+j=i+(j+1):=by omega
     rw[e2] at h5 h6
     exact ⟨row,mj,h3,Mk.meet_le_r a1 a2 h4,h5,h6⟩
   ·cases e
  ·cases e
theorem xzL {sz:Nat} {row:List Value} (hrow:row.length=sz): ∀ (cur:List (List Value)) (j:Nat),j<cur.length→(∀r∈cur,r.length=sz)→bzC cur.flatten (j*sz) row=(cur.set j row).flatten
 |r::rs,0,_,hl=>by
  have h0:=hl r (by simp)
  simp only[List.flatten_cons,Nat.zero_mul,List.set_cons_zero]
  rw[ozr (by omega)]
  simp only[bzC,Nat.zero_add,List.take_zero,List.nil_append]
  rw[hrow,←h0,List.drop_length,List.append_nil]
 |r::rs,j+1,hj,hl=>by
  have h0:=hl r (by simp)
  simp only[List.flatten_cons,List.set_cons_succ]
  rw[show (j+1)*sz=r.length+j*sz by rw[h0,Nat.add_mul];omega,nzB,xzL hrow rs j (by simpa using hj) (fun q hq=>hl q (by simp [hq]))]
theorem jzD {sz:Nat}: ∀ (rows:List (List Value)) (j:Nat) (row:List Value),(∀r∈rows,r.length=sz)→rows[j]?=some row→(rows.flatten.drop (j*sz)).take sz=row
 |r::rs,0,row,hl,h=>by
  simp only[List.getElem?_cons_zero,Option.some.injEq] at h
  subst h
  have h0:=hl r (by simp)
  simp [List.take_append,h0]
 |r::rs,j+1,row,hl,h=>by
  have h0:=hl r (by simp)
  rw[List.flatten_cons,show (j+1)*sz=r.length+j*sz by rw[h0,Nat.add_mul];omega,List.drop_append,List.drop_of_length_le (by omega),List.nil_append,Nat.add_sub_cancel_left]
  exact jzD rs j row (fun q hq=>hl q (by simp [hq])) (by simpa using h)
 | [],j,row,_,h=>by simp at h
theorem kza {sz:Nat}: ∀ (rows:List (List Value)),(∀r∈rows,r.length=sz)→rows.flatten.length=rows.length*sz
 | [],_=>by simp
 |r::rs,h=>by
  rw[List.flatten_cons,List.length_append,kza rs (fun q hq=>h q (by simp [hq])),h r (by simp),List.length_cons,Nat.add_mul];omega
theorem CzY {k sz:Nat} (ρ:Operand→Value) (rows:Nat→List Value): ∀ (ps:List (Nat×Operand)) (cur:List (List Value)),bzM k ps=true→cur.length=k→(∀r∈cur,r.length=sz)→
 (∀p∈ps,(rows p.1).length=sz∧(ρ p.2).cells=(rows p.1).toArray)→(cells:Array Value)→cells.toList=cur.flatten→
 ∃cells' cur',Instr.fill (fun i=>some (i*sz,sz)) cells (ps.map fun p=>(p.1,ρ p.2))=some cells'∧cells'.toList=List.flatten cur'∧cur'.length=k∧
  (∀j,(∀p∈ps,p.1≠j)→cur'[j]?=cur[j]?)∧(∀p∈ps,cur'[p.1]?=some (rows p.1))
 | [],cur,_,hk,hl,_,cells,hcl=>⟨cells,cur,rfl,hcl,hk,fun _ _=>rfl,fun p hp=>by simp at hp⟩
 |p::ps,cur,hp,hk,hl,hr,cells,hcl=>by
  obtain ⟨h1,h2,h3⟩:=kzL hp
  obtain ⟨h6,h7⟩:=hr p (by simp)
  have hclen:cells.size=k*sz:=by rw[←Array.length_toList,hcl,kza cur hl,hk]
  have hfit:p.1*sz+sz≤k*sz:=ezw h1
  have h8:=xzL h6 cur p.1 (by omega) hl
  have hf:=ozA (rows p.1) 0 (p.1*sz) cells (by omega)
  have hl': ∀r∈cur.set p.1 (rows p.1),r.length=sz:=fun r hr'=>by
   rcases List.mem_or_eq_of_mem_set hr' with h|h
   ·exact hl r h
   ·rw[h];exact h6
  obtain ⟨cells',cur',i1,i2,i3,i4,i5⟩:=CzY ρ rows ps (cur.set p.1 (rows p.1)) h3 (by simp [hk]) hl' (fun q hq=>hr q (by simp [hq])) (((rows p.1).zipIdx 0).foldl (fun cs (c,j)=>cs.setIfInBounds (p.1*sz+j) c) cells) (by rw[hf,Nat.add_zero,hcl,h8])
  refine ⟨cells',cur',?_,i2,i3,fun j hj=>?_,fun q hq=>?_⟩
  ·simp only[List.map_cons,Instr.fill,h7,List.size_toArray,h6,ne_eq,not_true,decide_false,Bool.false_or,decide_eq_true_eq,gt_iff_lt]
   rw[if_neg (by simp;omega)]
   rw[←i1]
   congr 1
   rw[←Array.foldl_toList,Array.toList_zipIdx]
  ·rw[i4 j (fun q hq=>hj q (by simp [hq])),List.getElem?_set_ne]
   exact hj p (by simp)
  ·rcases List.mem_cons.1 hq with rfl|hq
   ·rw[i4 q.1 (fun q' hq'=>h2 q' hq'),List.getElem?_set_self (by omega)]
   ·exact i5 q hq
theorem Dzb {k:Nat} {T:Ty} {ps:List (Nat×Operand)} {rows:List (List Value)} (hp:bzM k ps=true) (hk:rows.length=k) (hr: ∀j row,rows[j]?=some row→Jzs a ps T j row)
 (cells:Array Value) (hc:cells.toList=(List.replicate k (azO T)).flatten):
 Instr.fill (fun i=>some (i*T.sz,T.sz)) cells (ps.map fun p=>(p.1,a.eval p.2))=some rows.flatten.toArray:=by
 have hps: ∀p∈ps,((fun j=>rows.getD j []) p.1).length=T.sz∧(a.eval p.2).cells=((fun j=>rows.getD j []) p.1).toArray:=by
  intro p hpm
  have hlt:p.1<rows.length:=by
   rw[hk]
   clear hr hc
   induction ps with
   |nil=>simp at hpm
   |cons q qs ih=>
    obtain ⟨h1,_,h3⟩:=kzL hp
    rcases List.mem_cons.1 hpm with rfl|h
    ·exact h1
    ·exact ih h3 h
  have hrow:=hr p.1 _ (List.getElem?_eq_getElem hlt)
  obtain ⟨h4,h5,h6⟩:=hrow
  rw[wz7 hp p hpm] at h6
  simp only[List.getD_eq_getElem?_getD,List.getElem?_eq_getElem hlt,Option.getD_some]
  exact ⟨h4,by rw[h6];exact ezP h4 h5⟩
 obtain ⟨cells',cur',i1,i2,i3,i4,i5⟩:=CzY (k:=k) (sz:=T.sz) a.eval (fun j=>rows.getD j []) ps (List.replicate k (azO T)) hp (by simp) (fun r hr=>by rw[List.eq_of_mem_replicate hr];exact (dzr T).1) hps cells hc
 rw[i1]
 congr 1
 apply Array.toList_inj.1
 rw[i2]
 congr 1
 refine List.ext_getElem? fun j=>?_
 rcases Nat.lt_or_ge j k with hj|hj
 ·have hrow:=hr j _ (List.getElem?_eq_getElem (by omega:j<rows.length))
  by_cases hex: ∃p∈ps,p.1=j
  ·obtain ⟨p,hpm,rfl⟩:=hex
   rw[i5 p hpm]
   simp only[List.getD_eq_getElem?_getD,List.getElem?_eq_getElem (by omega:p.1<rows.length),Option.getD_some]
  ·have hno: ∀p∈ps,p.1≠j:=fun p hpm e=>hex ⟨p,hpm,e⟩
   obtain ⟨_,_,h6⟩:=hrow
   rw[EzM hno] at h6
   rw[i4 j hno,List.getElem?_eq_getElem (by omega:j<rows.length),h6]
   simp [hj]
 ·rw[List.getElem?_eq_none (by omega),List.getElem?_eq_none (by omega)]
theorem Rel.handWeak {gl:Nat→Option VV} (h:Rel gl gv n s g a w) (m:Mk):Rel gl gv n s {g with ω:=czo g.ω [3,0] (.own 0 m)} a w∧azJ w w g.ω (czo g.ω [3,0] (.own 0 m))∧Far w w g.ω (czo g.ω [3,0] (.own 0 m))∧
 ∀ (t:Ty) j mj x row,m.le mj=true→Rep w g.ω g.η t ([3,0]++[j]) mj x row→Rep w (czo g.ω [3,0] (.own 0 m)) g.η t ([3,0]++[j]) m x row:=by
 have hst:azJ w w g.ω (czo g.ω [3,0] (.own 0 m)):=fun b _ hb=>⟨az6 hb,rfl⟩
 refine ⟨h.reown (fun b q hq hp=>bzj hq fun hh=>hp (List.IsPrefix.trans (by simp) hh)) hst (fun b hb hn=>hb (az6 hn)),hst,(fun b q hq=>⟨bzj hq (azI (.inr (by decide))),rfl⟩),fun t j mj x row hle hr=>?_⟩
 have hi:=fun b=>mzM (ω:=g.ω) (p:=[3,0]) (i:=j) (m:= .own 0 m) (m':=m) (fun q=>rfl) b
 exact Rep.mono (fun b _ hb=>⟨(hi b).1 hb,rfl⟩) t _ _ _ _ _ (fun b q _ hq=>⟨(hi b).2 q hq,rfl⟩) (Rep.weaken t g.ω _ _ _ _ _ hle hr)
theorem Gave.after {g1:G} {W:VV} {v:Value} (h:Gave E gv n a g1 w W s' v w') (hη:g1.η=g.η) (hst:azJ w w g.ω g1.ω) (hfr:Far w w g.ω g1.ω):Gave E gv n a g w W s' v w':=by
 obtain ⟨g',cs,k,h1,h2,h3,h4⟩:=h
 exact ⟨g',cs,k,h1,h2.trans hη,h3,h4.os,h4.tape,h4.output,h4.size,hst.trans h4.still,hfr.trans h4.far⟩
theorem mkV_arr {k:Nat} {T:Ty} {cs:List Value}:mkV (.arr k T) cs= .agg cs.toArray:=rfl
theorem AzG (h:Rel E.gl gv n s g a w) (hgv: ∀i,a.eval (.global i)=gv i) {t k:Nat} {T:Ty} {parts:Array (Nat×Operand)} {xs:List T.den} (hT:TyOk P (.arr k T) t) (hop:o.op= .build t parts)
 (hp:bzM k parts.toList=true) (e:nzA E T parts.toList 0 k s=some (xs, .sh,s')):Does P E gv n g a w o (.ok (.v (.arr k T) .sh xs) s'):=by
 obtain ⟨g',rows,k1,k2,k3,k4,k5⟩:=rzd hgv k 0 s s' g xs .sh h e
 obtain ⟨h1,h2,h2f,h3⟩:=k1.rel.handWeak (m:= .sh)
 have hro: ∀j row,rows[j]?=some row→Jzs a parts.toList T j row:=fun j row hj=>by
  have hlt:j<xs.length:=by
   rcases Nat.lt_or_ge j rows.length with h|h
   ·omega
   ·rw[List.getElem?_eq_none h] at hj;cases hj
  obtain ⟨row',mj,h4,_,_,h5⟩:=k5 j _ (List.getElem?_eq_getElem hlt)
  rw[hj] at h4;cases h4
  rw[Nat.zero_add] at h5;exact h5
 have hrl: ∀r∈rows,r.length=T.sz:=fun r hr=>by
  obtain ⟨j,hj⟩:=List.getElem?_of_mem hr
  exact (hro j r hj).1
 have hf:=Dzb (a:=a) hp k4 hro (azO (.arr k T)).toArray rfl
 have hz:=ezP (dzr (.arr k T)).1 (dzr (.arr k T)).2
 have hb:=hT.b
 simp only[TyOk] at hT
 obtain ⟨_,el,h6,h7⟩:=hT
 refine .pure (v:=mkV (.arr k T) rows.flatten) ?_ ⟨{g' with ω:=czo g'.ω [3,0] (.own 0 .sh)},rows.flatten,0,h1,k1.η,⟨?_,rfl⟩,Evo.same (k1.fl.1.trans h2) (k1.fl.far.trans h2f)⟩
 ·simp only[execOp,hop,Instr.build,hb.run_zero,hz,azg h6,h7.b.run_sizeOf,Sem.run_bind,Result.andThen_ok,Array.toList_map]
  rw[hf]
  rfl
 ·refine ⟨k3,by rw[kza rows hrl,k4],fun j x hx=>?_⟩
  obtain ⟨row,mj,h8,h9,h10,_⟩:=k5 j x hx
  rw[jzD rows j row hrl h8]
  rw[Nat.zero_add] at h10
  exact Rep.sh_mono (azJ.refl _ _) _ _ _ _ _ (h3 T j mj x row h9 h10)
theorem wzY (h:Rel E.gl gv n s g a w) (hgv: ∀i,a.eval (.global i)=gv i) {t k:Nat} {T:Ty} {parts:Array (Nat×Operand)} {xs:List T.den} {m:Mk} (hT:TyOk P (.sl T) t) (hop:o.op= .buildSlice t k parts)
 (hp:bzM k parts.toList=true) (hsz:k*T.sz≤16777216) (e:nzA E T parts.toList 0 k s=some (xs,m,s')):Does P E gv n g a w o (.ok (.v (.sl T) (.own 0 m) xs) s'):=by
 obtain ⟨g',rows,k1,k2,k3,k4,k5⟩:=rzd hgv k 0 s s' g xs m h e
 obtain ⟨h1,h2,h2f,h3⟩:=k1.rel.handWeak (m:=m)
 have hro: ∀j row,rows[j]?=some row→Jzs a parts.toList T j row:=fun j row hj=>by
  have hlt:j<xs.length:=by
   rcases Nat.lt_or_ge j rows.length with h|h
   ·omega
   ·rw[List.getElem?_eq_none h] at hj;cases hj
  obtain ⟨row',mj,h4,_,_,h5⟩:=k5 j _ (List.getElem?_eq_getElem hlt)
  rw[hj] at h4;cases h4
  rw[Nat.zero_add] at h5;exact h5
 have hrl: ∀r∈rows,r.length=T.sz:=fun r hr=>by
  obtain ⟨j,hj⟩:=List.getElem?_of_mem hr
  exact (hro j r hj).1
 simp only[TyOk] at hT
 obtain ⟨_,el,h6,h7⟩:=hT
 have hzok:=dzr T
 have hz:=ezP hzok.1 hzok.2
 let zero:Array Value:=if k*T.sz=0 then #[] else (azO T).toArray
 have hce:((Array.range (k*T.sz)).map (zero[· % zero.size]!)).toList=(List.replicate k (azO T)).flatten:=by
  by_cases hz0:k*T.sz=0
  ·have e1:(List.replicate k (azO T)).flatten=[]:=List.length_eq_zero_iff.1 (by simp [List.length_flatten,hzok.1,hz0])
   rw[e1,hz0];simp
  ·have hne:azO T≠ []:=by
    intro e
    have:=hzok.1
    rw[e] at this
    simp at this
    rw[←this] at hz0
    simp at hz0
   have:=wz1 hne k
   rw[hzok.1] at this
   simp only[zero,if_neg hz0]
   exact this
 have hf:=Dzb (a:=a) hp k4 hro _ hce
 have hrun:(execOp a.eval o).run P w= .ok (.value (.slice (some ⟨w.heap.size,0,none⟩) k k)) {w with heap:=w.heap.push (.cells rows.flatten.toArray el)}:=by
  have hmap:(Array.map (fun x:Nat×Operand=>(x.1,a.eval x.2)) parts).toList=parts.toList.map fun p=>(p.1,a.eval p.2):=by simp
  simp only[execOp,hop,Instr.buildSlice,azg h6,h7.b.run_sizeOf,Sem.run_bind,Result.andThen_ok]
  rw[if_neg (by omega)]
  by_cases hz0:k*T.sz=0
  ·simp only[zero,if_pos hz0] at hf
   simp only[if_pos hz0,Sem.run_bind,Sem.run_pure,Result.andThen_ok,hmap]
   rw[hf]
   simp [newRow]
  ·simp only[zero,if_neg hz0] at hf
   simp only[if_neg hz0,Sem.run_bind,Sem.run_pure,Result.andThen_ok,h7.b.run_zero,hz,hmap]
   rw[hf]
   simp [newRow]
 have hg:=Gave.fresh h1 (w':={w with heap:=w.heap.push (.cells rows.flatten.toArray el)}) (U:=T) (xs:=xs) (me:=m) (c:=k) rfl rfl rfl rfl (by rw[List.size_toArray,kza rows hrl,k4]) (mzs _) (by omega) (fun j x hx=>by
  obtain ⟨row,mj,h8,h9,h10,_⟩:=k5 j x hx
  rw[jzD rows j row hrl h8]
  rw[Nat.zero_add] at h10
  exact h3 T j mj x row h9 h10)
 rw[k3] at hg
 exact ⟨_,_, .inl hrun,hg.after k1.η (k1.fl.1.trans h2) (k1.fl.far.trans h2f)⟩
end
end Go.TV
namespace Go.TV
theorem Rep.elMove {w w':World} {ω ω':azw} {η:Pins} {t:Ty} {p p':Path} {mj mm:Mk} {x:t.den} {row:List Value} (hle:mm.le mj=true) (hr:Rep w ω η t p mj x row) (hst:azJ w w' ω ω')
 (hdrop: ∀b q,ω b=some (p++q)→bzX mm q=false→ω' b=none∧w'.heap[b]?=w.heap[b]?) (hkeep: ∀b q,ω b=some (p++q)→bzX mm q=true→ω' b=some (p'++q)∧w'.heap[b]?=w.heap[b]?):
 Rep w' ω' η t p' mm x row:=
 Rep.mono (ω:=czo ω p mm) (fun b hb hn=>by
  cases ho:ω b with
  |none=>exact hst b hb ho
  |some r=>
   by_cases hp:p<+:r
   ·obtain ⟨q,rfl⟩:=hp
    rw[hzb ho] at hn
    have:bzX mm q=false:=by cases hq:bzX mm q<;>simp_all
    exact hdrop b q ho this
   ·rw[bzj ho hp] at hn;cases hn) t _ _ _ _ _ (fun b q hk hq=>hkeep b q (zz4 hq) hk) (Rep.weaken t ω p mj mm x row hle hr)
def izs (ω:azw) (len:Nat) (mm:Mk) (keep:Bool):azw:=fun b=>match ω b with
 |some (3::0::q)=>match q with
  | []=>bif keep then some [3,0] else none
  |j::q=>if bzX mm q then some (3::0::j::q) else none
 |some (3::1::q)=>match q with
  | []=>none
  |j::q=>if bzX mm q then some (3::0::(len+j)::q) else none
 |r=>r
section
variable {ω:azw} {k:Nat} {mm:Mk} {kp:Bool} {b:Nat}
theorem xzl (h:ω b=none):izs ω k mm kp b=none:=by simp [izs,h]
theorem Jz5 (h:izs ω k mm kp b≠none):ω b≠none:=fun e=>h (xzl e)
theorem Jzt {q:Path} (h:ω b=some q) (hq: ¬[3]<+:q):izs ω k mm kp b=some q:=by
 unfold izs
 rw[h]
 split
 ·rename_i q' e;cases e;exact absurd (by simp) hq
 ·rename_i q' e;cases e;exact absurd (by simp) hq
 ·rfl
theorem Hzf {j:Nat} {q:Path} (h:ω b=some ([3,0]++[j]++q)):izs ω k mm kp b=if bzX mm q then some ([3,0]++[j]++q) else none:=by
 simp [izs,h]
theorem GzS {j:Nat} {q:Path} (h:ω b=some ([3,1]++[j]++q)):izs ω k mm kp b=if bzX mm q then some ([3,0]++[k+j]++q) else none:=by
 simp [izs,h]
theorem IzN {q:Path} (h:ω b=some ([3,1000000]++q)):izs ω k mm kp b=some ([3,1000000]++q):=by
 simp [izs,h]
theorem Izj (h:ω b=some [3,0]):izs ω k mm kp b=bif kp then some [3,0] else none:=by
 simp [izs,h]
end
theorem Rel.hand {gl:Nat→Option VV} {gv:Nat→Value} {n:Nat} {s:St} {g:G} {a:Act} {w w':World} {ω':azw} (h:Rel gl gv n s g a w) (hr: ∀b q,g.ω b=some q→ ¬[3]<+:q→ω' b=some q∧w'.heap[b]?=w.heap[b]?) (hst:azJ w w' g.ω ω')
 (hlt: ∀b,ω' b≠none→b<w'.heap.size):Rel gl gv n s {g with ω:=ω'} a w' where
 tm u:=(h.tm u).keep rfl hst (fun b q hq=>hr b _ hq (by simp [azC])) fun ha=>ha.keep rfl hst (fun _ _=>rfl) (fun q _=>⟨fun y m hy=>⟨y,hy,rfl⟩,rfl⟩) fun q hs hq=>⟨fun _ h=>h,fun r N c hc=>by
  generalize hW:s.tm u=W at*
  match W,hs,hq,ha with
  | .sref ⟨bx,n',q', .sl U⟩ i o t,_,hq,⟨xs,m,r',N',c',cells,e,fr,h1,h2,h3,h4,h5,h6,h7⟩=>
    simp only[VV.pl,Option.some.injEq] at hq
    subst hq
    obtain ⟨T,M,x,h8,h9,h10,h11,h12⟩:=h.get h1
    obtain ⟨_,h13,_⟩:=Rep.own_block h12 h2 hc
    exact (hr _ _ h13 (by cases bx<;>simp [azC])).2⟩
 bx b:=by
  have hu:=h.bx b
  cases hv:s.bx b with
  |v T m x=>
   rw[hv] at hu
   obtain ⟨h1,⟨cells,e,fr,h2,h2',h3⟩,h4⟩:=hu
   have:=hr _ _ h1 (by simp)
   exact ⟨this.1,⟨cells,e,fr,this.2.trans h2,h2',h3⟩,Rep.mono hst _ _ _ _ _ _ (fun b q _ hq=>hr b _ hq (by simp [azC])) h4⟩
  |junk=>trivial
  |_=>rw[hv] at hu;exact hu
 gl i t x o hi:=(h.gl i t x o hi).keep rfl hst (fun _ _=>rfl) (fun q hq=>by cases hq) (fun q hq=>by cases hq)
 lt:=hlt
 sz:=h.sz
 df:=h.df
theorem Gz4 {l1 l2:List Value} {o k:Nat} (h:o+k≤l1.length):((l1++l2).drop o).take k=(l1.drop o).take k:=by
 rw[List.drop_append,List.take_append]
 have:k- (l1.drop o).length=0:=by rw[List.length_drop];omega
 rw[this];simp
theorem Lzz {l1 l2:List Value} {o k m:Nat} (h:o=l1.length+m):((l1++l2).drop o).take k=(l2.drop m).take k:=by
 rw[h,List.drop_append,List.drop_of_length_le (by omega),List.nil_append,Nat.add_sub_cancel_left]
theorem Nzh {l row:List Value} {o p k:Nat} (h:o+row.length≤l.length) (hp:p+k≤row.length):((bzC l o row).drop (o+p)).take k=(row.drop p).take k:=by
 refine List.ext_getElem? fun i=>?_
 by_cases hi:i<k
 ·rw[List.getElem?_take_of_lt hi,List.getElem?_take_of_lt hi,List.getElem?_drop,List.getElem?_drop,czP h,if_neg (by omega),if_pos (by omega)]
  congr 1;omega
 ·rw[List.getElem?_eq_none (by simp;omega),List.getElem?_eq_none (by simp;omega)]
theorem yz2 (T:Ty) (k:Nat):(Builtin.zeroCells (azO T).toArray k).toList=(List.replicate k (azO T)).flatten:=by
 by_cases hne:azO T=[]
 ·have e1:(List.replicate k (azO T)).flatten=[]:=List.length_eq_zero_iff.1 (by simp [List.length_flatten,hne])
  rw[e1]
  simp [Builtin.zeroCells,hne]
 ·have:=wz1 hne k
  simp only[Builtin.zeroCells]
  exact this
theorem EzK (need:Nat): ∀ (r c:Nat),256≤c→c≤2*need→Builtin.growBy need r c≤2*need
 |0,c,_,h=>h
 |r+1,c,h0,h=>by
  simp only[Builtin.growBy]
  split
  ·exact h
  ·exact EzK need r _ (by omega) (by omega)
theorem Izs {need c:Nat} (h:c<need):Builtin.nextslicecap need c≤2*need:=by
 unfold Builtin.nextslicecap
 split
 ·omega
 ·split
  ·omega
  ·exact EzK need 4 c (by omega) (by omega)
section
variable {P:Program} {gv:Nat→Value} {n:Nat} {s s':St} {g:G} {a:Act} {w w':World} {R:Type} {E:Env R} {o:Oper}
theorem zzG (h:Rel E.gl gv n s g a w) {e:Ty} {xs ys:List e.den} {m mm:Mk} {kp:Bool} {r c:Nat} {cells:Array Value} {el:TypeId} {fr:Nat×Nat} {ω':azw}
 (hω: ∀b,b≠r→ω' b=izs g.ω xs.length mm kp b) (hωr:ω' r=some [3,0]) (hre: ∀p,g.ω r=some p→p=[3,0]) (hrn:g.ω r=none→w.heap.size≤r)
 (hh: ∀b,b≠r→b<w.heap.size→w'.heap[b]?=w.heap[b]?) (hcell:w'.heap[r]?=some (.cells cells el fr)) (hs:cells.size=c*e.sz) (hu:bzg fr cells.size) (hl:xs.length+ys.length≤c)
 (hmx:mm.le m=true) (hx: ∀j x,xs[j]?=some x→Rep w g.ω g.η e ([3,0]++[j]) m x ((cells.toList.drop (j*e.sz)).take e.sz))
 (hy: ∀j y,ys[j]?=some y→ ∃mj,mm.le mj=true∧Rep w g.ω g.η e ([3,1]++[j]) mj y ((cells.toList.drop ((xs.length+j)*e.sz)).take e.sz))
 (hos:w'.os=w.os) (htape:w'.tape=w.tape) (hout:w'.output=w.output) (hsz:w.heap.size≤w'.heap.size):
 Gave E gv n a g w (.v (.sl e) (.own 0 mm) (app xs ys)) s (.slice (some ⟨r,0,none⟩) (xs.length+ys.length) c) w':=by
 have hlt: ∀b q,g.ω b=some q→b<w.heap.size:=fun b q hq=>h.lt b (by rw[hq];simp)
 have hst:azJ w w' g.ω ω':=fun b hb hn=>by
  have hbr:b≠r:=by rintro rfl;have:=hrn hn;omega
  exact ⟨by rw[hω b hbr];exact xzl hn,hh b hbr hb⟩
 have hne: ∀b q,g.ω b=some q→q≠ [3,0]→b≠r:=fun b q hq hq'=>by rintro rfl;exact hq' (hre q hq)
 have hrel:Rel E.gl gv n s {g with ω:=ω'} a w':=h.hand (fun b q hq hp=>by
  have hbr:=hne b q hq (by rintro rfl;exact hp (by simp))
  exact ⟨by rw[hω b hbr];exact Jzt hq hp,hh b hbr (hlt b q hq)⟩) hst (fun b hb=>by
  by_cases hbr:b=r
  ·rw[hbr];exact xzH hcell
  ·rw[hω b hbr] at hb
   have:=h.lt b (Jz5 hb)
   omega)
 refine ⟨_,[.slice (some ⟨r,0,none⟩) (xs.length+ys.length) c],0,hrel,rfl,⟨⟨some ⟨r,0,none⟩,c,by simp [app],fun h=>absurd rfl h, .inr ⟨r,cells,el,fr,rfl,hωr,hcell,hs,hu,by simpa [app] using hl,fun i x hi=>?_⟩⟩,rfl⟩,hos,htape,hout,hsz,hst,fun b q hq=>?_⟩
 rotate_left
 ·have hbr:=hne b _ hq (by simp)
  exact ⟨by show ω' b=_;rw[hω b hbr];exact IzN hq,hh b hbr (hlt b _ hq)⟩
 simp only[app] at hi
 rcases Nat.lt_or_ge i xs.length with hlt'|hge
 ·rw[List.getElem?_append_left hlt'] at hi
  refine Rep.elMove hmx (hx i x hi) hst (fun b q hq hk=>?_) (fun b q hq hk=>?_)
  ·have hbr:=hne b _ hq (by simp)
   exact ⟨by show ω' b=_;rw[hω b hbr,Hzf hq,hk];rfl,hh b hbr (hlt b _ hq)⟩
  ·have hbr:=hne b _ hq (by simp)
   exact ⟨by show ω' b=_;rw[hω b hbr,Hzf hq,hk];rfl,hh b hbr (hlt b _ hq)⟩
 ·rw[List.getElem?_append_right hge] at hi
  obtain ⟨mj,h1,h2⟩:=hy _ x hi
  have ei:xs.length+(i-xs.length)=i:=by omega
  rw[ei] at h2
  refine Rep.elMove h1 h2 hst (fun b q hq hk=>?_) (fun b q hq hk=>?_)
  ·have hbr:=hne b _ hq (by simp)
   exact ⟨by show ω' b=_;rw[hω b hbr,GzS hq,hk];rfl,hh b hbr (hlt b _ hq)⟩
  ·have hbr:=hne b _ hq (by simp)
   exact ⟨by show ω' b=_;rw[hω b hbr,GzS hq,hk,ei];rfl,hh b hbr (hlt b _ hq)⟩
theorem Gzo (h:Rel E.gl gv n s g a w) {e:Ty} {t t2:Nat} {ats:Array TypeId} {ty:TypeId} {xs ys:List e.den} {m mm:Mk} {A:Option Addr} {c:Nat} {yv:Value} {news:List Value}
 (hT:TyOk P (.sl e) t) (ht:ats[0]?=some t) (ht2:ats[1]?=some t2) (hk:(∃el,P.underlying t2=some (.slice el))∨P.underlying t2=some .string)
 (hx:Rep w g.ω g.η (.sl e) [3,0] (.own 0 m) xs [.slice A xs.length c]) (hmx:mm.le m=true)
 (hy: ∀j y,ys[j]?=some y→ ∃mj,mm.le mj=true∧Rep w g.ω g.η e ([3,1]++[j]) mj y ((news.drop (j*e.sz)).take e.sz))
 (hnl:news.length=ys.length*e.sz) (hnc: ∀v∈news,nzG v) (hf:fits (len xs+len ys) e.sz=true)
 (hlen: ∀w',(Builtin.lenOf yv).run P w'= .ok ys.length w') (hcell: ∀w',w'.heap=w.heap→(Builtin.firstCells e.sz ys.length yv).run P w'= .ok news.toArray w'):
 ∃v w',(Builtin.append_ ats ty #[.slice A xs.length c,yv]).run P w= .ok v w'∧Gave E gv n a g w (.v (.sl e) (.own 0 mm) (app xs ys)) s v w':=by
 simp only[TyOk] at hT
 obtain ⟨_,el,h2,h3⟩:=hT
 have hb:=h3.b
 have hszo:=hb.run_sizeOf (w:=w)
 have hzok:=dzr e
 have hz:=ezP hzok.1 hzok.2
 obtain ⟨A',c',e',_,hcase⟩:=hx
 simp only[List.cons.injEq,Value.slice.injEq,and_true,true_and] at e'
 obtain ⟨rfl,rfl⟩:=e'
 have hyl: ∀j y,ys[j]?=some y→j<ys.length:=fun j y hj=>by
  rcases Nat.lt_or_ge j ys.length with h|h
  ·exact h
  ·rw[List.getElem?_eq_none h] at hj;cases hj
 have hxl: ∀j y,xs[j]?=some y→j<xs.length:=fun j y hj=>by
  rcases Nat.lt_or_ge j xs.length with h|h
  ·exact h
  ·rw[List.getElem?_eq_none h] at hj;cases hj
 by_cases hroom:xs.length+ys.length≤c
 ·rcases hcase with ⟨rfl,rfl,rfl⟩| ⟨r,cells,el',fr,rfl,ho,hh,hs,hu,hl,hel⟩
  ·have hy1:([]:List e.den).length+ys.length≤0:=hroom
   have hy0:ys=[]:=List.length_eq_zero_iff.1 (by rw[List.length_nil] at hy1;omega)
   subst hy0
   refine ⟨.slice none 0 0,w,?_,⟨g,[.slice none 0 0],0,h,rfl,⟨⟨none,0,rfl,fun h=>absurd rfl h, .inl ⟨rfl,rfl,rfl⟩⟩,rfl⟩,Evo.refl _ _⟩⟩
   have hl0:=hlen w
   have hc0:=hcell w rfl
   simp only[List.length_nil] at hl0 hc0
   rcases hk with ⟨e2,hk⟩|hk<;>simp [Builtin.append_,ht,ht2,azg h2,azg hk,hszo,hl0,hc0]
  ·have hfit:xs.length*e.sz+news.length≤cells.size:=by
    rw[hnl,hs,←Nat.add_mul];exact Nat.mul_le_mul_right _ hroom
   have hst:=lzg (P:=P) (b:=r) (off:=xs.length*e.sz) news 0 w cells el' fr hh hu (by omega) hnc
   simp only[Nat.add_zero] at hst
   obtain ⟨⟨cells',h8,h9⟩,h10,h11,h12,h13,h14⟩:=jzJ news (xs.length*e.sz) w cells el' fr hh hfit
   have hl':xs.length*e.sz+news.length≤cells.toList.length:=by rw[Array.length_toList];exact hfit
   have hsize:cells'.size=cells.size:=by rw[←Array.length_toList,h9,ezf hl',Array.length_toList]
   refine ⟨.slice (some ⟨r,0,none⟩) (xs.length+ys.length) c,kzV w r (xs.length*e.sz) news,?_,zzG h (kp:=true) (r:=r) (cells:=cells') (el:=el') (fr:=fr) (ω':=izs g.ω xs.length mm true) (m:=m) (fun _ _=>rfl) (by rw[Izj ho];rfl)
    (fun p hp=>by rw[ho] at hp;cases hp;rfl) (fun hn=>by rw[ho] at hn;cases hn) (fun b hb _=>h10 b hb) h8 (by rw[hsize,hs]) (by rw[hsize];exact hu) hroom hmx (fun j x hj=>?_) (fun j y hj=>?_) h12 h13 h14 (by rw[h11];exact Nat.le_refl _)⟩
   ·have hl0:=hlen w
    have hc0:=hcell w rfl
    rcases hk with ⟨e2,hk⟩|hk<;>simp [Builtin.append_,ht,ht2,azg h2,azg hk,hszo,hl0,hc0,hroom,ezV,hst]
   ·rw[h9,oz8 hl']
    ·exact hel j x hj
    ·right;have:=ezw (sz:=e.sz) (hxl j x hj);omega
   ·obtain ⟨mj,k1,k2⟩:=hy j y hj
    refine ⟨mj,k1,?_⟩
    rw[h9,Nat.add_mul,Nzh hl']
    ·exact k2
    ·rw[hnl];exact ezw (hyl j y hj)
 ·
  obtain ⟨i,i1,i2,i3,i4⟩:=hb
  have hneed:c<xs.length+ys.length:=by omega
  have hf':(len xs+len ys)*((e.sz+1:Nat):Int)≤1099511627776:=(rzZ (by simp only[len];omega)).1 hf
  have hlenI:len xs+len ys=((xs.length+ys.length:Nat):Int):=by simp [len]
  rw[hlenI] at hf'
  have hfn:(xs.length+ys.length)*(e.sz+1)≤1099511627776:=by
   rw[←Int.natCast_mul] at hf';omega
  have hfn1:(xs.length+ys.length)*e.sz+(xs.length+ys.length)≤1099511627776:=by rw[Nat.mul_add,Nat.mul_one] at hfn;exact hfn
  have hcap:Builtin.nextslicecap (xs.length+ys.length) c*i.bytes≤2^48:=by
   have h1:=Izs hneed
   have h4:Builtin.nextslicecap (xs.length+ys.length) c*i.bytes≤(2*(xs.length+ys.length))*(24*e.sz):=Nat.mul_le_mul h1 i4
   have h5:(2*(xs.length+ys.length))*(24*e.sz)=48*((xs.length+ys.length)*e.sz):=by
    rw[Nat.mul_mul_mul_comm]
   have:(2:Nat)^48=281474976710656:=by decide
   omega
  have hold: ∃olds:List Value,olds.length=xs.length*e.sz∧(∀w',w'.heap=w.heap→(Builtin.firstCells e.sz xs.length (.slice A xs.length c)).run P w'= .ok olds.toArray w')∧
   ∀j x,xs[j]?=some x→Rep w g.ω g.η e ([3,0]++[j]) m x ((olds.drop (j*e.sz)).take e.sz):=by
   rcases hcase with ⟨rfl,rfl,rfl⟩| ⟨r,cells,el',fr,rfl,ho,hh,hs,hu,hl,hel⟩
   ·exact ⟨[],by simp,fun w' _=>rfl,fun j x hj=>by simp at hj⟩
   ·have hct:cells.toList.length=cells.size:=Array.length_toList
    have hle:xs.length*e.sz≤cells.toList.length:=by rw[hct,hs];exact Nat.mul_le_mul_right _ hl
    refine ⟨cells.toList.take (xs.length*e.sz),by rw[List.length_take];omega,fun w' hw'=>?_,fun j x hj=>?_⟩
    ·refine fzM (by rw[List.length_take];omega) fun j v hj=>?_
     rw[List.getElem?_take] at hj
     split at hj
     ·simp only[World.cell?,hw',hh]
      simpa using hj
     ·cases hj
    ·have:=ezw (sz:=e.sz) (hxl j x hj)
     rw[List.drop_take,List.take_take,Nat.min_eq_left (by omega)]
     exact hel j x hj
  obtain ⟨olds,o1,o2,o3⟩:=hold
  generalize hcap':(Question.appendCap (xs.length+ys.length) c el).cut (w.tape w.drawn (.appendCap (xs.length+ys.length) c el))=cap
  have hcy:xs.length+ys.length≤cap:=by rw[←hcap'];simp only[Question.cut];exact Nat.le_add_right _ _
  let cells:Array Value:=olds.toArray++news.toArray++Builtin.zeroCells (azO e).toArray (cap- (xs.length+ys.length))
  have hcl:cells.toList=olds++(news++(List.replicate (cap- (xs.length+ys.length)) (azO e)).flatten):=by
   simp only[cells,Array.toList_append,List.append_assoc,yz2]
  have hcs:cells.size=cap*e.sz:=by
   rw[←Array.length_toList,hcl]
   simp only[List.length_append,o1,hnl,List.length_flatten,List.map_replicate,List.sum_replicate_nat,hzok.1]
   rw[←Nat.add_assoc,←Nat.add_mul,←Nat.add_mul]
   congr 1;omega
  let w2:World:={w with heap:=w.heap.push (.cells cells el),drawn:=w.drawn+1}
  refine ⟨.slice (some ⟨w.heap.size,0,none⟩) (xs.length+ys.length) cap,w2,?_,zzG h (w':=w2) (kp:=false) (r:=w.heap.size) (cells:=cells) (el:=el) (fr:=(0,0)) (ω':=fun b=>if b=w.heap.size then some [3,0] else izs g.ω xs.length mm false b) (m:=m)
   (fun b hb=>if_neg hb) (if_pos rfl) (fun p hp=>by have:=h.lt _ (show g.ω w.heap.size≠none by rw[hp];simp);omega) (fun _=>Nat.le_refl _)
   (fun b _ hb=>by simp only[w2,Array.getElem?_push];rw[if_neg (by omega)]) (by simp [w2]) hcs (mzs _) hcy hmx (fun j x hj=>?_) (fun j y hj=>?_) rfl rfl rfl (by simp only[w2,Array.size_push];omega)⟩
  ·have e1:(typeInfo el).run P=fun w=> .ok i w:=funext fun w=>kzv i1
   have hl0:=fun w'=>hlen w'
   have ho2:=o2 {w with drawn:=w.drawn+1} rfl
   have hn2:=hcell {w with drawn:=w.drawn+1} rfl
   have hzr:=fun w':World=>h3.b.run_zero (w:=w')
   have hsz0:=fun w':World=>h3.b.run_sizeOf (w:=w')
   have hask: ∀k (w':World),(askRoom k).run P w'= .ok () w':=fun k w'=>by
    unfold askRoom;split<;>rfl
   have hg1: ¬((xs.length+ys.length:Nat):Int)>IntKind.i64.max:=by
    have h1:IntKind.i64.max=9223372036854775807:=by decide
    rw[h1];omega
   rcases hk with ⟨e2,hk⟩|hk
   ·simp only[Builtin.append_,ht,ht2,List.getElem?_toArray,List.getElem?_cons_zero,List.getElem?_cons_succ,Sem.run_bind,azg h2,azg hk,hsz0,Result.andThen_ok,Sem.run_pure,hl0,if_neg hroom,e1,Bool.not_false,if_true,Bool.false_eq_true,if_false]
    rw[if_neg (by rintro ⟨h1,_⟩;exact hg1 h1)]
    simp only[Sem.run_bind,e1,Result.andThen_ok]
    rw[if_neg (Nat.not_lt.2 hcap)]
    simp only[Sem.run_bind,run_choose,Question.forced,Bool.false_eq_true,if_false,hcap',Result.andThen_ok,hask,ho2,hn2,hzr,hz,newRow,run_newObj,Sem.run_pure,e1]
    rfl
   ·simp only[Builtin.append_,ht,ht2,List.getElem?_toArray,List.getElem?_cons_zero,List.getElem?_cons_succ,Sem.run_bind,azg h2,azg hk,hsz0,Result.andThen_ok,Sem.run_pure,hl0,if_neg hroom,e1,Bool.not_false,if_true,Bool.false_eq_true,if_false]
    rw[if_neg (by rintro ⟨h1,_⟩;exact hg1 h1)]
    simp only[Sem.run_bind,e1,Result.andThen_ok]
    rw[if_neg (Nat.not_lt.2 hcap)]
    simp only[Sem.run_bind,run_choose,Question.forced,Bool.false_eq_true,if_false,hcap',Result.andThen_ok,hask,ho2,hn2,hzr,hz,newRow,run_newObj,Sem.run_pure,e1]
    rfl
  ·rw[hcl,Gz4 (by rw[o1];exact ezw (hxl j x hj))]
   exact o3 j x hj
  ·obtain ⟨mj,k1,k2⟩:=hy j y hj
   refine ⟨mj,k1,?_⟩
   rw[hcl,Lzz (m:=j*e.sz) (by rw[o1,Nat.add_mul]),Gz4 (by rw[hnl];exact ezw (hyl j y hj))]
   exact k2
end
end Go.TV
namespace Go.TV
theorem Mzv {t u:Ty} (h:isTy t u=true):t=u:=by
 unfold isTy at h
 split at h
 ·assumption
 ·cases h
theorem yzi {m:Mk} (h:m.isSh=true):m= .sh:=by cases m<;>first|rfl|cases h
theorem Mk.e_all {m:Mk} (h:m.all=true):m.e.all=true:=by cases m<;>first|rfl|exact h|cases h
theorem Rep.flat {w:World} {ω:azw} {η:Pins}: ∀ (t:Ty) (p p':Path) (m:Mk) (x:t.den) (cs:List Value),t.full.isSh=true→m.all=true→Rep w ω η t p m x cs→Rep w ω η t p' .sh x cs
 | .int _,_,_,m,_,_,_,hm,h=>by cases m<;>first|exact h|cases hm
 | .bool,_,_,m,_,_,_,hm,h=>by cases m<;>first|exact h|cases hm
 | .str,_,_,m,_,_,_,hm,h=>by cases m<;>first|exact h|cases hm
 | .unit,_,_,_,_,_,_,_,h=>h
 | .prod a b,p,p',m,x,cs,ht,hm,h=>by
   have hn:m≠ .no:=by rintro rfl;cases hm
   obtain ⟨hp,c1,c2,e,h1,h2⟩:=Kn.out hn h
   have hf:a.full.isSh=true∧b.full.isSh=true:=by
    simp only[Ty.full] at ht
    generalize a.full=x at*
    generalize b.full=y at*
    cases x<;>cases y<;>simp_all [Mk.mkpr,Mk.isSh]
   have hl:m.l.all=true:=by
    cases m<;>first|rfl| (simp only[Mk.all] at hm;simp only[Mk.l];rename_i u v;cases hu:u.all<;>rw[hu] at hm<;>first|cases hm|rfl)|cases hm
   have hr:m.r.all=true:=by
    cases m<;>first|rfl| (simp only[Mk.all] at hm;simp only[Mk.r];rename_i u v;cases hu:u.all<;>rw[hu] at hm<;>first|cases hm|exact hm)|cases hm
   exact ⟨rfl,c1,c2,e,Rep.flat a _ _ _ _ _ hf.1 hl h1,Rep.flat b _ _ _ _ _ hf.2 hr h2⟩
 | .arr k t,p,p',m,x,cs,_,hm,h=>by cases m<;>first|exact h|cases hm
 | .item,_,_,_,_,_,h,_,_=>by cases h
 | .sl _,_,_,_,_,_,h,_,_=>by cases h
section
variable {P:Program} {gv:Nat→Value} {n:Nat} {s s':St} {g:G} {a:Act} {w w':World} {R:Type} {E:Env R} {o:Oper}
theorem Lz7 {α:Type} {Q:Nat→α→List Value→Prop}: ∀ (xs:List α) (k:Nat),(∀i x,xs[i]?=some x→ ∃row,Q (k+i) x row)→ ∃rows:List (List Value),rows.length=xs.length∧ ∀ (i:Nat) x row,xs[i]?=some x→rows[i]?=some row→Q (k+i) x row
 | [],k,_=>⟨[],rfl,fun i x row h=>by simp at h⟩
 |y::ys,k,h=>by
  obtain ⟨r0,h0⟩:=h 0 y rfl
  obtain ⟨rows,h1,h2⟩:=Lz7 (Q:=Q) ys (k+1) (fun i x hx=>by
   have:=h (i+1) x (by simpa using hx)
   rw[show k+1+i=k+(i+1) by omega];exact this)
  refine ⟨r0::rows,by simp [h1],fun i x row hx hr=>?_⟩
  cases i with
  |zero=>
   simp only[List.getElem?_cons_zero,Option.some.injEq] at hx hr
   subst hx;subst hr;exact h0
  |succ i=>
   have:=h2 i x row (by simpa using hx) (by simpa using hr)
   rw[show k+(i+1)=k+1+i by omega];exact this
theorem Lzm {η:Pins} {ω:azw} {e:Ty} {pa:Path} {m:Mk} {ys:List e.den} {cs:List Value} (h:Rep w ω η (.sl e) pa m ys cs) (ha:m.all=true):
 ∃ (A:Option Addr) (c:Nat) (news:List Value),cs=[.slice A ys.length c]∧news.length=ys.length*e.sz∧(∀v∈news,nzG v)∧(∀w',w'.heap=w.heap→(Builtin.firstCells e.sz ys.length (.slice A ys.length c)).run P w'= .ok news.toArray w')∧
   ∀j y,ys[j]?=some y→Rep w ω η e (pa++[j]) m.e y ((news.drop (j*e.sz)).take e.sz):=by
 have hlt: ∀j y,ys[j]?=some y→j<ys.length:=fun j y hj=>by
  rcases Nat.lt_or_ge j ys.length with h|h
  ·exact h
  ·rw[List.getElem?_eq_none h] at hj;cases hj
 have hokRows: ∀news:List Value,news.length=ys.length*e.sz→(∀j y,ys[j]?=some y→Rep w ω η e (pa++[j]) m.e y ((news.drop (j*e.sz)).take e.sz))→ ∀v∈news,nzG v:=by
  intro news hl hr v hv
  obtain ⟨i,hi⟩:=List.getElem?_of_mem hv
  have hil:i<news.length:=by
   rcases Nat.lt_or_ge i news.length with h|h
   ·exact h
   ·rw[List.getElem?_eq_none h] at hi;cases hi
  have hpos:0<e.sz:=by
   rcases Nat.eq_zero_or_pos e.sz with h0|h0
   ·rw[hl,h0] at hil;omega
   ·exact h0
  have hd:i/e.sz<ys.length:=(Nat.div_lt_iff_lt_mul hpos).2 (by omega)
  have hm:i % e.sz<e.sz:=Nat.mod_lt _ hpos
  have h1:=hr (i/e.sz) _ (List.getElem?_eq_getElem hd)
  refine Rep.cellsOk _ _ _ _ _ (Mk.e_all ha) h1 v ?_
  refine List.mem_iff_getElem?.2 ⟨i % e.sz,?_⟩
  rw[List.getElem?_take_of_lt hm,List.getElem?_drop,←hi]
  congr 1
  have:=Nat.div_add_mod i e.sz
  rw[Nat.mul_comm] at this;exact this
 have hsh:m.e= .sh→(∃A c,cs=[.slice A ys.length c]∧ys.length≤c∧ ∀i x,ys[i]?=some x→ ∃a row,A=some a∧a.spot=none∧Stab w ω a.block∧row.length=e.sz∧
  gzo w a.block (a.off+i*e.sz) row∧Rep w ω η e [] .sh x row)→ ∃ (A:Option Addr) (c:Nat) (news:List Value),cs=[.slice A ys.length c]∧news.length=ys.length*e.sz∧(∀v∈news,nzG v)∧(∀w',w'.heap=w.heap→(Builtin.firstCells e.sz ys.length (.slice A ys.length c)).run P w'= .ok news.toArray w')∧
  ∀j y,ys[j]?=some y→Rep w ω η e (pa++[j]) m.e y ((news.drop (j*e.sz)).take e.sz):=by
  rintro hme ⟨A,c,h1,h2,h3⟩
  obtain ⟨rows,hrl,hrows⟩:=Lz7 (Q:=fun i x row=> ∃a,A=some a∧a.spot=none∧row.length=e.sz∧gzo w a.block (a.off+i*e.sz) row∧Rep w ω η e [] .sh x row) ys 0 (fun i x hx=>by
   obtain ⟨a,row,k1,k2,k3,k4,k5,k6⟩:=h3 i x hx
   rw[Nat.zero_add]
   exact ⟨row,a,k1,k2,k4,k5,k6⟩)
  simp only[Nat.zero_add] at hrows
  have hrsz: ∀r∈rows,r.length=e.sz:=fun r hr=>by
   obtain ⟨i,hi⟩:=List.getElem?_of_mem hr
   have hil:i<rows.length:=by
    rcases Nat.lt_or_ge i rows.length with h|h
    ·exact h
    ·rw[List.getElem?_eq_none h] at hi;cases hi
   obtain ⟨_,_,_,k,_⟩:=hrows i _ r (List.getElem?_eq_getElem (show i<ys.length by omega)) hi
   exact k
  have hnl:rows.flatten.length=ys.length*e.sz:=by rw[kza rows hrsz,hrl]
  have hel: ∀j y,ys[j]?=some y→Rep w ω η e (pa++[j]) m.e y ((rows.flatten.drop (j*e.sz)).take e.sz):=fun j y hj=>by
   have hjl:=hlt j y hj
   have hrj:rows[j]?=some rows[j]:=List.getElem?_eq_getElem (by omega)
   rw[jzD rows j _ hrsz hrj,hme]
   obtain ⟨_,_,_,_,_,k⟩:=hrows j y _ hj hrj
   exact Rep.sh_mono (azJ.refl _ _) _ _ _ _ _ k
  refine ⟨A,c,rows.flatten,h1,hnl,hokRows _ hnl hel,fun w' hw'=>?_,hel⟩
  cases A with
  |none=>
   have hy0:ys=[]:=by
    cases hy:ys with
    |nil=>rfl
    |cons y ys'=>obtain ⟨a,_,k,_⟩:=h3 0 y (by rw[hy];rfl);cases k
   have:rows=[]:=List.length_eq_zero_iff.1 (by rw[hrl,hy0];rfl)
   rw[this]
   rfl
  |some ad=>
   by_cases hz:ys.length=0
   ·have:rows=[]:=List.length_eq_zero_iff.1 (by rw[hrl,hz])
    rw[this,hz]
    simp [Builtin.firstCells,loadCells,loadCellsFrom]
   ·obtain ⟨ad',k1,k2,_⟩:=hrows 0 _ _ (List.getElem?_eq_getElem (show 0<ys.length by omega)) (List.getElem?_eq_getElem (show 0<rows.length by omega))
    cases k1
    obtain ⟨ab,ao,asp⟩:=ad
    simp only at k2
    subst k2
    refine fzM hnl fun i v hv=>?_
    have hil:i<rows.flatten.length:=by
     rcases Nat.lt_or_ge i rows.flatten.length with h|h
     ·exact h
     ·rw[List.getElem?_eq_none h] at hv;cases hv
    have hpos:0<e.sz:=by
     rcases Nat.eq_zero_or_pos e.sz with h0|h0
     ·rw[hnl,h0] at hil;omega
     ·exact h0
    have hd:i/e.sz<ys.length:=(Nat.div_lt_iff_lt_mul hpos).2 (by omega)
    have hm:i % e.sz<e.sz:=Nat.mod_lt _ hpos
    have hdm:i/e.sz*e.sz+i % e.sz=i:=by rw[Nat.mul_comm];exact Nat.div_add_mod i e.sz
    have hrj:rows[i/e.sz]?=some rows[i/e.sz]:=List.getElem?_eq_getElem (by omega)
    obtain ⟨ad2,k3,k4,k5,k6,_⟩:=hrows _ _ _ (List.getElem?_eq_getElem hd) hrj
    cases k3
    have h5:(rows[i/e.sz])[i % e.sz]?=some v:=by
     rw[←jzD rows _ _ hrsz hrj,List.getElem?_take_of_lt hm,List.getElem?_drop,hdm];exact hv
    have h6:=k6 _ _ h5
    rw[show ao+i/e.sz*e.sz+i % e.sz=ao+i by rw[Nat.add_assoc,hdm]] at h6
    simp only[World.cell?,hw'] at h6⊢
    exact h6
 cases m with
 |no=>cases ha
 |sh=>exact hsh rfl h
 |pr _ _=>exact hsh rfl h
 |own pin me=>
  obtain ⟨A,c,h1,_,h2⟩:=h
  rcases h2 with ⟨rfl,rfl,rfl⟩| ⟨r,cells,el',fr,rfl,ho,hh,hs,hu,hl,hel⟩
  ·exact ⟨none,0,[],h1,by simp,fun v hv=>by simp at hv,fun w' _=>rfl,fun j y hj=>by simp at hj⟩
  ·have hct:cells.toList.length=cells.size:=Array.length_toList
   have hle:ys.length*e.sz≤cells.toList.length:=by rw[hct,hs];exact Nat.mul_le_mul_right _ hl
   have hnl:(cells.toList.take (ys.length*e.sz)).length=ys.length*e.sz:=by rw[List.length_take];omega
   have hel': ∀j y,ys[j]?=some y→Rep w ω η e (pa++[j]) me y (((cells.toList.take (ys.length*e.sz)).drop (j*e.sz)).take e.sz):=fun j y hj=>by
    have:=ezw (sz:=e.sz) (hlt j y hj)
    rw[List.drop_take,List.take_take,Nat.min_eq_left (by omega)]
    exact hel j y hj
   refine ⟨_,c,cells.toList.take (ys.length*e.sz),h1,hnl,hokRows _ hnl hel',fun w' hw'=>?_,hel'⟩
   refine fzM hnl fun j v hj=>?_
   rw[List.getElem?_take] at hj
   split at hj
   ·simp only[World.cell?,hw',hh]
    simpa using hj
   ·cases hj
theorem slT_ok (hT: ∀t T,E.tt t=some T→TyOk P T t) {t:Nat} (h:slT E t=true):(∃el,P.underlying t=some (.slice el))∨P.underlying t=some .string:=by
 unfold slT at h
 split at h
 ·rename_i U hU
  have:=hT _ _ hU
  simp only[TyOk] at this
  obtain ⟨_,el,h1,_⟩:=this
  exact .inl ⟨el,h1⟩
 ·rename_i hU
  have:=hT _ _ hU
  simp only[TyOk] at this
  exact .inr this.2
 ·cases h
theorem Mzn (hT: ∀t T,E.tt t=some T→TyOk P T t) {t:Nat} {T:Ty} (h:tyIs E t T=true):TyOk P T t:=by
 unfold tyIs at h
 split at h
 ·rename_i U hU
  have:=Mzv h
  subst this
  exact hT _ _ hU
 ·cases h
theorem Gzh (h:Rel E.gl gv n s g a w) (hgv: ∀i,a.eval (.global i)=gv i) (hT: ∀t T,E.tt t=some T→TyOk P T t) {c:Call} {x y:Operand} {t t2:Nat} {rest:List Nat} {ev:Ev} (hop:o.op= .call c) (hc:c.callee= .builtin .append)
 (hx:c.args.toList=[x,y]) (hts:c.argTypes.toList=t::t2::rest) (e:Bzj E s t t2 x y=some ev):Does P E gv n g a w o ev:=by
 have hrun:=kzR (P:=P) (a:=a) (w:=w) hop hc hx (fun _ _ _=>rfl)
 simp only[List.map_cons,List.map_nil] at hrun
 have hat:c.argTypes=⟨t::t2::rest⟩:=by rw[←hts]
 have ht1:c.argTypes[0]?=some t:=by rw[hat];rfl
 have ht2:c.argTypes[1]?=some t2:=by rw[hat];rfl
 unfold Bzj at e
 split at e
 case h_2=>cases e
 rename_i el m xs s1 he
 obtain ⟨T,M,y1,g1,hW,htk⟩:=h.grab (h.opF hgv 0 t x) he
 cases hW
 cases hcond:(m.all&&tyIs E t (.sl el)&&slT E t2)<;>rw[hcond] at e
 ·cases e
 simp only[cond_true] at e
 simp only[Bool.and_eq_true] at hcond
 have hTt:=Mzn hT hcond.1.2
 have hk:=slT_ok hT hcond.2
 obtain ⟨cs,hrx,hvx⟩:=htk.rep
 obtain ⟨A,cc,hcs⟩:=szR hrx (by simp)
 subst hcs
 have hvx':a.eval x= .slice A xs.length cc:=hvx
 have fin: ∀ {s2:St} {g2:G} {ys:List el.den} {mm:Mk} {news:List Value},Rel E.gl gv n s2 g2 a w→g2.η=g.η→(azJ w w g.ω g2.ω∧Far w w g.ω g2.ω)→Rep w g2.ω g2.η (.sl el) [3,0] (.own 0 m) xs [.slice A xs.length cc]→mm.le m=true→
  (∀j y,ys[j]?=some y→ ∃mj,mm.le mj=true∧Rep w g2.ω g2.η el ([3,1]++[j]) mj y ((news.drop (j*el.sz)).take el.sz))→news.length=ys.length*el.sz→(∀v∈news,nzG v)→
  (∀w',(Builtin.lenOf (a.eval y)).run P w'= .ok ys.length w')→(∀w',w'.heap=w.heap→(Builtin.firstCells el.sz ys.length (a.eval y)).run P w'= .ok news.toArray w')→
  Does P E gv n g a w o (.chk (fits (len xs+len ys) el.sz) (.v (.sl el) (.own 0 mm) (app xs ys)) s2):=by
  intro s2 g2 ys mm news h2 hη hst hr1 hmx hy hnl hnc hlen hcell hf
  obtain ⟨v,w',h5,h6⟩:=Gzo (P:=P) (ty:=o.type) h2 hTt ht1 ht2 hk hr1 hmx hy hnl hnc hf hlen hcell
  refine ⟨v,w', .inl ?_,h6.after hη hst.1 hst.2⟩
  rw[hrun,hvx',h5]
  rfl
 split at e
 ·rename_i m' b hr
  split at e
  ·rename_i bs hb
   cases e
   obtain ⟨e1,e2⟩:=azk hb
   simp only[Ty.sl.injEq] at e1
   subst e1
   subst e2
   have hv:=htk.rel.str hgv hr
   have hlen:(bzv b).length=b.size:=by simp [bzv]
   refine fin (news:=b.data.toList.map fun x=>Value.int .u8 x.toNat) htk.rel htk.η ⟨htk.fl.1,htk.fl.far⟩ hrx (Mk.le_sh hcond.1.1) (fun j y hj=>⟨.sh,rfl,?_⟩) (by simp [bzv,Ty.sz]) (fun v hv=>?_) (fun w'=>?_) (fun w' _=>?_)
   ·simp only[cast_eq,bzv,List.getElem?_map,Option.map_eq_some_iff] at hj
    obtain ⟨z,hz1,rfl⟩:=hj
    have hlt:j<b.data.toList.length:=by
     rcases Nat.lt_or_ge j b.data.toList.length with h|h
     ·exact h
     ·rw[List.getElem?_eq_none h] at hz1;cases hz1
    have:((b.data.toList.map fun x=>Value.int .u8 (x.toNat:Int)).drop (j*(Ty.int .u8).sz)).take (Ty.int .u8).sz=[.int .u8 (z.toNat:Int)]:=by
     rw[List.getElem?_eq_getElem hlt,Option.some.injEq] at hz1
     rw[show (Ty.int .u8).sz=1 from rfl,Nat.mul_one,List.drop_eq_getElem_cons (by simpa using hlt)]
     rw[List.take_succ_cons,List.take_zero,List.getElem_map,hz1]
    rw[this]
    rfl
   ·obtain ⟨_,_,rfl⟩:=List.mem_map.1 hv
    rfl
   ·rw[hv]
    simp only[cast_eq,hlen]
    rfl
   ·rw[hv]
    simp only[cast_eq,hlen,Builtin.firstCells,Sem.run_pure]
    congr 1
    apply Array.toList_inj.1
    simp
  ·cases e
 ·rename_i u m' ys hnostr hr
  split at e
  ·rename_i ys' hb
   obtain ⟨e1,e2⟩:=azk hb
   subst e1
   subst e2
   try simp only[cast_eq] at e
   cases hfull:el.full.isSh<;>rw[hfull] at e
   ·
    simp only[cond_false] at e
    split at e
    ·rename_i zs m2 s2 hg
     cases e
     obtain ⟨ha2,g2,htk2⟩:=htk.rel.grabT hgv 1 hg
     obtain ⟨cs2,hr2,hv2⟩:=htk2.rep
     obtain ⟨A2,c2,news,h1,h2,h3,h4,h5⟩:=Lzm (P:=P) hr2 ha2
     have hv2':a.eval y= .slice A2 (zs:List el.den).length c2:=by rw[hv2,h1];rfl
     have hrx2:Rep w g2.ω g2.η (.sl el) [3,0] (.own 0 m) xs [.slice A xs.length cc]:=by
      rw[htk2.η]
      exact htk2.fl.rep (p:=[]) (by decide) hrx
     have hml:=Mk.meet_le hcond.1.1 (Mk.e_all ha2)
     refine fin htk2.rel (htk2.η.trans htk.η) ⟨htk.fl.1.trans htk2.fl.1,htk.fl.far.trans htk2.fl.far⟩ hrx2 hml.1 (fun j y hj=>⟨m2.e,hml.2,h5 j y hj⟩) h2 h3 (fun w'=>?_) (fun w' hw'=>?_)
     ·rw[hv2'];rfl
     ·rw[hv2'];exact h4 w' hw'
    ·cases e
   ·simp only[cond_true] at e
    cases ha:m'.all<;>rw[ha] at e
    ·cases e
    cases e
    obtain ⟨pa,cs2,hrv⟩:=htk.rel.opd' hgv t y
    obtain ⟨hm',pa',cs',hrep,hv2⟩:=htk.rel.res hrv _ _ _ hr
    obtain ⟨A2,c2,news,h1,h2,h3,h4,h5⟩:=Lzm (P:=P) hrep ha
    have hv2':a.eval y= .slice A2 (ys':List el.den).length c2:=by rw[hv2,h1];rfl
    refine fin htk.rel htk.η ⟨htk.fl.1,htk.fl.far⟩ hrx (Mk.le_sh hcond.1.1) (fun j y hj=>⟨.sh,rfl,Rep.flat el _ _ _ _ _ hfull (Mk.e_all ha) (h5 j y hj)⟩) h2 h3 (fun w'=>?_) (fun w' hw'=>?_)
    ·rw[hv2'];rfl
    ·rw[hv2'];exact h4 w' hw'
  ·cases e
 ·cases e
end
end Go.TV
