/- The library's functions by the kit's contracts. Of no condition. -/
import Derived.Test.YtkfifjaomgjnnaaGreatDoorP0
import Derived.Shelf.Lay
import Derived.Shelf.Strings.Repeat
import Derived.Shelf.Lays2
import Derived.Shelf.RegionOpenPlain
import Derived.WalkKit
import Derived.Deep.LoopGhost
import Derived.Deep.RegionLaw
import Derived.Lib.SliceRun
import Derived.Lib.SlicesDelete
import Derived.Deep.MidRow
set_option linter.unusedVariables false
set_option maxRecDepth 100000
namespace Go.Proofs
open Go.Shelf
shelf_lay Lays.n105 Nm 105 at Tryz as Tryz.lays105
theorem Tryz.bx105:Builder.Extra Tryz.prog Tryz.lays105_ren where
 sizeBuilder:=by kernel_rfl
 liesBuilder:=by kernel_rfl
 t5:=by kernel_rfl
 a5:=fun _=>by kernel_rfl
 z5:=fun _=>by kernel_rfl
 v5:=fun _=>by kernel_rfl
 infoByte:=by kernel_rfl
 cellsByte:=by kernel_rfl
 sizeByte:=by kernel_rfl
 neB5:=by decide
section
open Go.RowKit Go.Lib Go.Sort
shelf_lay Lays2.n24 Nm2 24 at Tryz as Tryz.lays24
theorem Tryz.setCells_at (b:Nat): ∀ (vs:List Value) (o:Nat) (w:World) (cs:Array Value) (e:TypeId) (fr:Nat×Nat),w.heap[b]?=some (.cells cs e fr)→
 ∃cs',(w.setCells b o vs).heap[b]?=some (.cells cs' e fr)∧cs'.size=cs.size∧ ∀j,j<cs.size→cs'[j]?=if o≤j∧j<o+vs.length then vs[j-o]? else cs[j]?
 | [],o,w,cs,e,fr,h=>⟨cs,h,rfl,fun j _=>by rw[if_neg (fun h=>by have h2:=h.2;simp only[List.length_nil] at h2;omega)]⟩
 |v::vs,o,w,cs,e,fr,h=>by
  have h1:(w.setCell ⟨b,o,none⟩ v).heap[b]?=some (.cells (cs.setIfInBounds o v) e fr):=by
   simp only[World.setCell,Array.getElem?_modify,if_true,h,Option.map_some]
   rfl
  obtain ⟨cs',h2,h3,h4⟩:=Tryz.setCells_at b vs (o+1) _ _ e fr h1
  refine ⟨cs',h2,by rw[h3];simp,fun j hj=>?_⟩
  rw[h4 j (by simpa using hj)]
  by_cases h5:o+1≤j∧j<o+1+vs.length
  ·rw[if_pos h5,if_pos (by simp;omega),show j-o=(j- (o+1))+1 by omega,List.getElem?_cons_succ]
  ·rw[if_neg h5,Array.getElem?_setIfInBounds]
   by_cases h6:o=j
   ·subst h6
    rw[if_pos rfl,if_pos hj,if_pos (by simp),Nat.sub_self,List.getElem?_cons_zero]
   ·rw[if_neg h6,if_neg (by simp;omega)]
theorem Tryz.setCells_rest (b:Nat): ∀ (vs:List Value) (o:Nat) (w:World),(w.setCells b o vs).os=w.os∧(w.setCells b o vs).tape=w.tape∧(w.setCells b o vs).output=w.output∧(w.setCells b o vs).heap.size=w.heap.size∧ ∀i,i≠b→(w.setCells b o vs).heap[i]?=w.heap[i]?
 | [],o,w=>⟨rfl,rfl,rfl,rfl,fun _ _=>rfl⟩
 |v::vs,o,w=>by
  obtain ⟨h1,h2,h3,h4,h5⟩:=Tryz.setCells_rest b vs (o+1) (w.setCell ⟨b,o,none⟩ v)
  refine ⟨h1,h2,h3,h4.trans (by simp [World.setCell]),fun i hi=>(h5 i hi).trans ?_⟩
  simp only[World.setCell,Array.getElem?_modify]
  rw[if_neg (fun e=>hi e.symm)]
set_option maxHeartbeats 4000000 in
set_option maxRecDepth 1000000 in
theorem Tryz.del1 (b cap n:Nat) (v:Value) (news:List Value) (w:World) (hn:news.length=n) (hc:n+1≤cap) (hm:n+1≤9223372036854775807)
 (hs: ∀j u,(v::news)[j]?=some u→w.cell? ⟨b,j,none⟩=some u∧w.frozen? ⟨b,j,none⟩=false) (h1: ∀u∈news,u.oneCell'=true):
 Calls Tryz.prog (Tryz.lays24_ren.f 24) #[.slice (some ⟨b,0,none⟩) (n+1) cap, .int .i64 0, .int .i64 1] w fun e w'=>e= .returned (.slice (some ⟨b,0,none⟩) n cap)∧w'=(w.drew.setCells b 0 news).setCells b n [.string ⟨#[]⟩]:=by
 have L:=Tryz.lays24
 generalize Tryz.lays24_ren=ρ at*
 generalize Tryz.prog=P at*
 have mixed:=L.mixed;have t0:=L.t0;have a0:=L.a0;have z0:=L.z0;have v0:=L.v0;have t3:=L.t3;have a3:=L.a3;have z3:=L.z3;have v3:=L.v3;have t4:=L.t4;have a4:=L.a4;have z4:=L.z4;have v4:=L.v4;have t9:=L.t9;have a9:=L.a9;have z9:=L.z9;have v9:=L.v9;have t24:=L.t24;have a24:=L.a24;have z24:=L.z24;have v24:=L.v24
 obtain ⟨i0,hi0,hz0,hz1,hz2⟩:=info_parts L.i9
 obtain ⟨A,hA,hsrc⟩: ∃A:Addr,(if cap=1 then some (⟨b,0,none⟩:Addr) else some ⟨b,1,none⟩)=some A∧Hid (∀j u,news[j]?=some u→w.drew.cell? (A.add j)=some u):=by
  by_cases h:cap=1
  ·refine ⟨⟨b,0,none⟩,by simp [h],fun j u hu=>?_⟩
   have:news.length=0:=by omega
   rw[List.length_eq_zero_iff.1 this] at hu
   simp at hu
  ·refine ⟨⟨b,1,none⟩,by simp [h],fun j u hu=>?_⟩
   rw[Addr.add_lit,Nat.add_comm]
   exact (hs (j+1) u (by simpa using hu)).1
 have s1:Hid (news.length=n*1):=by rw[Nat.mul_one];exact hn
 have s2:Hid (∀u∈news,u.oneCell'=true):=h1
 have hat: ∀j,j<n+1→(w.cell? ⟨b,j,none⟩).isSome=true∧w.frozen? ⟨b,j,none⟩=false:=fun j hj=>by
  have:j<(v::news).length:=by simp;omega
  obtain ⟨q1,q2⟩:=hs j _ (List.getElem?_eq_getElem this)
  exact ⟨by rw[q1];rfl,q2⟩
 have s3:Hid (∀j,j<news.length→(w.drew.cell? ⟨b,0+0*1+j,none⟩).isSome=true∧w.drew.frozen? ⟨b,0+0*1+j,none⟩=false):=by
  intro j hj
  rw[show 0+0*1+j=j by omega]
  exact hat j (by omega)
 obtain ⟨W1,hW1⟩: ∃W1,W1=w.drew.setCells b (0+0*1) news:=⟨_,rfl⟩
 have hcl: ∀ty,(Builtin.clear_ #[ρ.t 24] ty #[.slice (some ⟨b,n,none⟩) 1 (cap-n)]).run P W1= .ok (.tuple #[]) (W1.setCells b n [.string ⟨#[]⟩]):=by
  obtain ⟨q1,q2⟩:=hat n (by omega)
  have c1:(W1.cell? ⟨b,n+0,none⟩).isSome=true∧W1.frozen? ⟨b,n+0,none⟩=false:=by
   rw[hW1]
   exact ⟨World.isSome_setCells b _ _ _ _ q1,by rw[World.frozen?_setCells];exact q2⟩
  refine fun ty=>Lib.run_clear_slice W1 _ _ ty _ t24 v9 rfl rfl b n _ _ (by omega) (fun t ht=>?_) (fun t ht=>?_)
  ·obtain rfl:t=0:=by omega
   exact c1.1
  ·obtain rfl:t=0:=by omega
   exact c1.2
 have hW:Hid (W1=w.drew.setCells b (0+0*1) news):=hW1
 have X:Aside (W1=w.drew.setCells b 0 news):=hW1
 have hq:(1:Int)≤(n:Int)+1:=by omega
 clear hs hat hW1
 go_enter L.f24,Body2.n24_ntmps ρ
 go_wp2_with fail
 go_region_law_o (refine step_append_room rfl (.tmp 22) (.tmp 25) (ρ.t 24) rfl (ρ.t 9) i0 1 t24 hi0 hz1 b 0 0 cap (by simp [Act.eval,Act.put]) A n (cap-1) news (by simp [Act.eval,Act.put]) s1.out hsrc.out s2.out (by omega) s3.out ?_;rw[←hW.out])
 go_wp2
 go_ret
 exact ⟨rfl,by rw[X.out]⟩
end
namespace YtkfifjaomgjnnaaGreatDoor
open Go.TV
open Classical in
noncomputable def g_slices_Delete_string_string_d:List ByteArray×Int×Int×Unit→Option ((List ByteArray×Unit)×Unit):=fun x=>if 0<x.1.length∧x.1.length≤16777216∧x.2.1=0∧x.2.2.1=1 then some ((x.1.drop 1,()),()) else none
noncomputable abbrev g_slices_Delete_string_string_g:Sig:=⟨[{t:= .sl .str,m:= .own 0 .sh},pa (.int .i64),pa (.int .i64)],[{t:= .sl .str,m:= .own 0 .sh}],false,g_slices_Delete_string_string_d⟩
theorem at_take {l:List Value} {i:Nat} {v:Value} (h:l[i]?=some v):(l.drop (i*1)).take 1=[v]:=by
 rw[Nat.mul_one]
 obtain ⟨h1,h2⟩:=List.getElem?_eq_some_iff.1 h
 rw[List.drop_eq_getElem_cons h1,h2]
 rfl
theorem take_at {l:List Value} {i:Nat} {v:Value} (h:(l.drop (i*1)).take 1=[v]):l[i]?=some v:=by
 rw[Nat.mul_one] at h
 have:=congrArg (·[0]?) h
 simpa [List.getElem?_take,List.getElem?_drop] using this
theorem g_slices_Delete_string_string_k:CallsOk Tryz.prog gls gvs 18 g_slices_Delete_string_string_g:=⟨rfl,enters_of Tryz.func18 (by kernel_rfl) rfl,fun w ω η x vals r hg ha hlt hF=>by
 obtain ⟨xs,i,j,u⟩:=x
 change (if 0<xs.length∧xs.length≤16777216∧i=0∧j=1 then some ((xs.drop 1,()),()) else none)=some r at hF
 split at hF
 case isFalse=>cases hF
 rename_i hc
 obtain ⟨h0,h1,rfl,rfl⟩:=hc
 cases hF
 match vals,ha with
 | [v1,v2,v3],⟨⟨cs,a1,a2⟩,⟨cs2,b1,b2⟩,⟨cs3,c1,c2⟩,_⟩=>
   cases xs with
   |nil=>cases h0
   |cons y t=>
    have b1':cs2=[.int .i64 0]:=b1
    have c1':cs3=[.int .i64 1]:=c1
    subst b1';subst c1'
    obtain ⟨A,c,rfl,_,h⟩:=a1
    have e1:v1= .slice A (t.length+1) c:=a2
    have e2:v2= .int .i64 0:=b2
    have e3:v3= .int .i64 1:=c2
    subst e1;subst e2;subst e3
    rcases h with ⟨_,h,_⟩| ⟨rb,cells,el,fr,rfl,ho,hh,hs,hf,hl,hx⟩
    ·cases h
    have hsz:cells.size=c:=by rw[hs];exact Nat.mul_one c
    have hl':t.length+1≤c:=hl
    have h1':t.length+1≤16777216:=h1
    have hat: ∀ (j:Nat) (z:ByteArray),(y::t)[j]?=some z→cells[j]?=some (Value.string z):=fun j z hz=>by
     have:=take_at (l:=cells.toList) (hx j z hz)
     rwa [Array.getElem?_toList] at this
    refine (Tryz.del1 rb c t.length (.string y) (t.map Value.string) w (by simp) hl' (by omega) (fun (j:Nat) (u:Value) hu=>?_) (fun (u:Value) hu=>?_)).mono ?_
    ·have hu':((y::t).map Value.string)[j]?=some u:=hu
     rw[List.getElem?_map] at hu'
     obtain ⟨z,hz,rfl⟩:=Option.map_eq_some_iff.1 hu'
     have hj:j<cells.size:=(Array.getElem?_eq_some_iff.1 (hat j z hz)).1
     refine ⟨?_,?_⟩
     ·simp only[World.cell?,hh]
      simpa using hat j z hz
     ·have:=hf j hj
      simp only[World.frozen?,hh]
      cases fr
      simpa using this
    ·obtain ⟨z,_,rfl⟩:=List.mem_map.1 hu
     rfl
    ·rintro e w' ⟨rfl,rfl⟩
     obtain ⟨k1,k2,k5,k6⟩:=Tryz.setCells_at rb (t.map Value.string) 0 w.drew cells el fr hh
     obtain ⟨k7,k8,k9,k10⟩:=Tryz.setCells_at rb [.string ⟨#[]⟩] t.length _ k1 el fr k2
     obtain ⟨r1,r2,r3,r4,r5⟩:=Tryz.setCells_rest rb (t.map Value.string) 0 w.drew
     obtain ⟨s1,s2,s3,s4,s5⟩:=Tryz.setCells_rest rb [.string ⟨#[]⟩] t.length (w.drew.setCells rb 0 (t.map Value.string))
     have hheap: ∀b,b≠rb→((w.drew.setCells rb 0 (t.map Value.string)).setCells rb t.length [.string ⟨#[]⟩]).heap[b]?=w.heap[b]?:=fun b hb=>(s5 b hb).trans (r5 b hb)
     have hsize:((w.drew.setCells rb 0 (t.map Value.string)).setCells rb t.length [.string ⟨#[]⟩]).heap.size=w.heap.size:=s4.trans r4
     refine ⟨mv ω [3,0] [3,2000,0],[.slice (some ⟨rb,0,none⟩) t.length c],⟨s1.trans r1,s2.trans r2,s3.trans r3,Nat.le_of_eq hsize.symm,fun b hb hn=>?_,fun b q hq=>?_⟩,fun b hb=>?_,⟨⟨[.slice (some ⟨rb,0,none⟩) t.length c],⟨some ⟨rb,0,none⟩,c,rfl,fun h=>absurd rfl h, .inr ⟨rb,k7,el,fr,rfl,?_,k8,?_,?_,?_,fun i x hix=>?_⟩⟩,rfl⟩,trivial⟩,rfl,trivial⟩
     ·have hne:b≠rb:=fun e=>by subst e;rw[ho] at hn;cases hn
      exact ⟨(still_mv (w:=w) b hb hn).1,hheap b hne⟩
     ·have hne:b≠rb:=fun e=>by subst e;rw[ho] at hq;cases hq
      exact ⟨mv_off hq (by simp [List.cons_prefix_cons]),hheap b hne⟩
     ·rw[hsize];exact hlt b (mv_ne hb)
     ·have:=mv_at (ω:=ω) (p:=[3,0]) (p':=[3,2000,0]) (q:=[]) (b:=rb) (by simpa using ho)
      simpa using this
     ·rw[k9,k5,hs]
     ·intro i hi;exact hf i (by omega)
     ·show t.length≤c;omega
     ·have hi:i<t.length:=(List.getElem?_eq_some_iff.1 hix).1
      refine at_take ?_
      rw[Array.getElem?_toList,k10 i (by omega),if_neg (by omega),k6 i (by omega),if_pos (by simp;omega)]
      simp
      exact hix⟩
def repeatB (s:ByteArray) (n:Nat):ByteArray:=⟨(Lib.repeatL s.data.toList n).toArray⟩
open Classical in
noncomputable def g_strings_Repeat_d:ByteArray×Int×Unit→Option ((ByteArray×Unit)×Unit):=fun x=>if 0≤x.2.1∧x.2.1≤1048576∧x.1.size≤1048576 then some ((repeatB x.1 x.2.1.toNat,()),()) else none
noncomputable abbrev g_strings_Repeat_g:Sig:=⟨[pa .str,pa (.int .i64)],[rt .str],false,g_strings_Repeat_d⟩
theorem g_strings_Repeat_k:CallsOk Tryz.prog gls gvs 215 g_strings_Repeat_g:=CallsOk.leaf rfl (enters_of Tryz.func215 (by kernel_rfl) rfl) rfl rfl fun x r w h=>by
 obtain ⟨s,n,u⟩:=x
 change (if 0≤n∧n≤1048576∧s.size≤1048576 then some ((repeatB s n.toNat,()),()) else none)=some r at h
 split at h
 ·rename_i hc
  obtain ⟨h0,h1,h2⟩:=hc
  cases h
  obtain ⟨m,rfl⟩:=Int.eq_ofNat_of_zero_le h0
  have h1':(m:Int)≤1048576:=h1
  have hm:s.size*m≤1048576*1048576:=Nat.mul_le_mul h2 (by omega)
  exact Any.strings_Repeat Tryz.lays105 Tryz.bx105 s m w (by omega) (by omega)
 ·cases h
end YtkfifjaomgjnnaaGreatDoor
end Go.Proofs
