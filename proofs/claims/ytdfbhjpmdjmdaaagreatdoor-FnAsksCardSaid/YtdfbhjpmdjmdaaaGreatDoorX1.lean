/- The text of an item: a walk through a builder. Of no condition. -/
import Derived.Test.YtdfbhjpmdjmdaaaGreatDoorAa
import Derived.Shelf.Strings.BuilderK
import Derived.Shelf.Strings.BuilderF
import Derived.WalkKit
import Derived.BigCall
set_option linter.unusedVariables false
set_option maxRecDepth 100000
namespace Go.Proofs
open Go.Shelf
theorem Tryz.l166:Lays.n166 Tryz.prog Tryz.lays105_ren:={Tryz.lays105 with}
theorem Tryz.l169:Lays.n169 Tryz.prog Tryz.lays105_ren:={Tryz.lays105 with}
theorem Tryz.l170:Lays.n170 Tryz.prog Tryz.lays105_ren:={Tryz.lays105 with}
abbrev Tryz.TB:Nat:=Tryz.lays105_ren.t 72
abbrev Tryz.TE:Nat:=Tryz.lays105_ren.t 5
section
open Go.RowKit
theorem jzK {T e:TypeId} {B b:Nat} {bs:List Value} {w w':World} (h:Lib.IsBuilderF T e B b bs w) (k:Below w.heap.size w w'):Lib.IsBuilderF T e B b bs w':=by
 have key: ∀p,Lib.BuilderAtF T e B b p bs w→Lib.BuilderAtF T e B b p bs w':=fun p ⟨h1,v,h2,h3,h4⟩=>by
  have hb:b<w.heap.size:=(Array.getElem?_eq_some_iff.1 h2).1
  refine ⟨h1,v,(k.block b hb).trans h2,h3.kept (row:=none) ⟨k.os,k.tape,k.output,k.size,fun i hi _=>k.block i hi⟩ ?_,h4⟩
  cases hv:v.ownBlock with
  |none=>exact .inl rfl
  |some g=>exact .inr (by simp)
 exact h.elim (fun h=> .inl (key _ h)) (fun h=> .inr (key _ h))
open Go.TV
def qzK:Nat→ItemT→Bool
 |0,_=>false
 |d+1, .mk l s k=>bif l then Nat.ble k.length 17&&k.all (qzK d) else Nat.ble s.size 600
noncomputable def nzU (g:ItemT→Option (ByteArray×Bool)) (h:ByteArray→Option (ByteArray×Bool)):List ItemT→ByteArray→Option (ByteArray×Bool)
 | [],b=>h b
 |x::xs,b=>match g x with
  |some (t,true)=>if t.size≤1000 then (if b.size+t.size≤900 then nzU g h xs (scat b t) else some (⟨#[]⟩,false)) else none
  |some (_,false)=>some (⟨#[]⟩,false)
  |none=>none
noncomputable def sz5 (L:Int→Int→Option ByteArray) (base:Int) (s:ByteArray):Option (ByteArray×Bool):=match L base (ssz s) with
 |some t=>if t.size≤100 then some (scat t s,true) else none
 |none=>none
noncomputable def mzo (L:Int→Int→Option ByteArray):Nat→ItemT→Option (ByteArray×Bool)
 |0,_=>none
 |d+1, .mk l s k=>if l=true then nzU (mzo L d) (sz5 L 192) k ⟨#[]⟩ else if s.size=1∧sat s 0<128 then some (s,true) else sz5 L 128 s
set_option maxHeartbeats 4000000 in
theorem Nz4 (L:Int→Int→Option ByteArray) (G:World→Prop) (hG: ∀w w',G w→Below w.heap.size w w'→G w') (ω:azw)
 (HL: ∀ (base n:Int) t w1,L base n=some t→G w1→Calls Tryz.prog 146 #[.int .i64 base, .int .i64 n] w1 fun e w'=>e= .returned (.string t)∧Below w1.heap.size w1 w')
 (d:Nat) (IH: ∀y,qzK d y=true→ ∀t b,mzo L d y=some (t,b)→ ∀w1 cs,G w1→RepI w1 ω y cs→Calls Tryz.prog 115 #[.agg cs.toArray] w1 fun e w'=>e= .returned (.tuple #[.string t, .bool b])∧Below w1.heap.size w1 w')
 (s:ByteArray) (k:List ItemT) (A:Option Addr) (c:Nat) (t:ByteArray) (b:Bool) (w:World) (hg:G w) (hk:k.length≤17) (hok:k.all (qzK d)=true) (hc:k.length≤c)
 (hF:nzU (mzo L d) (sz5 L 192) k ⟨#[]⟩=some (t,b))
 (hA: ∀i,i<k.length→ ∃ (a:Addr) (row:List Value),A=some a∧a.spot=none∧a.block<w.heap.size∧row.length=3∧gzo w a.block (a.off+i*3) row∧ ∀ (h:i<k.length),RepI w ω k[i] row):
 Calls Tryz.prog 115 #[.agg #[.bool true, .string s, .slice A k.length c]] w fun e w'=>e= .returned (.tuple #[.string t, .bool b])∧Below w.heap.size w w':=by
 have hb0:Below w.heap.size w ((w.alloc (.cells #[.bool true, .string s, .slice A k.length c] 98)).alloc (.cells #[.pointer none, .slice none 0 0] 171)):=((Below.refl _ w).alloc (Nat.le_refl _) _).alloc (by simp) _
 have hI0:Lib.IsBuilderF Tryz.TB Tryz.TE (w.heap.size+1) (w.heap.size+1) [] ((w.alloc (.cells #[.bool true, .string s, .slice A k.length c] 98)).alloc (.cells #[.pointer none, .slice none 0 0] 171)):=by
  have:=Lib.IsBuilderF.of (Lib.fresh_isBuilder Tryz.TB Tryz.TE (w.alloc (.cells #[.bool true, .string s, .slice A k.length c] 98)))
  rw[show (w.alloc (.cells #[.bool true, .string s, .slice A k.length c] 98)).heap.size=w.heap.size+1 by simp] at this
  exact this
 go_enter Tryz.func115,Tryz.ntmps115
 go_wp2
 go_loopw [34] (fun iv wr=> ∃ (i:Nat) (acc:ByteArray),iv= .int .i64 i∧i≤k.length∧acc.size≤900∧Below w.heap.size w wr∧Lib.IsBuilderF Tryz.TB Tryz.TE (w.heap.size+1) (w.heap.size+1) (Lib.byteCells acc.data.toList) wr∧
  nzU (mzo L d) (sz5 L 192) (k.drop i) acc=some (t,b)) (fun iv _=>k.length- (intOf iv).toNat)
 case atStart=>exact ⟨0,⟨#[]⟩,rfl,Nat.zero_le _,by decide,hb0,hI0,by simpa using hF⟩
 case round=>
  obtain ⟨i,acc,rfl,hi,hacc,hbw,hI,hFi⟩:=hrel
  have hgr:G wr:=hG _ _ hg hbw
  by_cases hlt:i<k.length
  ·obtain ⟨a,row,rfl,ha,hab,hrl,hra,hrep⟩:=hA i hlt
   have hrep:=hrep hlt
   have hoky:qzK d k[i]=true:=List.all_eq_true.1 hok _ (List.getElem_mem hlt)
   rw[List.drop_eq_getElem_cons hlt] at hFi
   obtain ⟨ab,ao,asp⟩:=a
   simp only at ha hab hra
   subst ha
   obtain ⟨y,hy⟩: ∃y,y=k[i]:=⟨_,rfl⟩
   rw[←hy] at hFi hoky hrep
   clear hy
   obtain ⟨l1,s1,k1,A1,c1,rfl⟩: ∃l1 s1 k1 A1 c1,row=[.bool l1, .string s1, .slice A1 k1 c1]:=by
    cases hrep with
    |mk l s k A c a row hc hA hr=>exact ⟨l,s,_,A,c,rfl⟩
   have f0:wr.cell? ⟨ab,ao+i*3,none⟩=some (.bool l1):=(hbw.cell hab).trans (hra 0 _ rfl)
   have f1:wr.cell? ⟨ab,ao+i*3+1,none⟩=some (.string s1):=(hbw.cell hab).trans (hra 1 _ rfl)
   have f2:wr.cell? ⟨ab,ao+i*3+2,none⟩=some (.slice A1 k1 c1):=(hbw.cell hab).trans (hra 2 _ rfl)
   have hil:(i:Int)<(k.length:Int):=by omega
   cases hy1:mzo L d y with
   |none=>simp only[nzU,hy1] at hFi;cases hFi
   |some tb=>
   obtain ⟨t1,b1⟩:=tb
   have hba:Below wr.heap.size wr (wr.alloc (.cells #[.bool l1, .string s1, .slice A1 k1 c1] 98)):=(Below.refl _ wr).alloc (Nat.le_refl _) _
   have hbt:=hbw.trans (hba.mono hbw.size)
   have cI:=(IH y hoky t1 b1 hy1 (wr.alloc (.cells #[.bool l1, .string s1, .slice A1 k1 c1] 98)) _ (hG _ _ hg hbt) (hrep.mono fun b hb hn=>⟨hn,hbt.block b hb⟩))
   have HF:Hid (nzU (mzo L d) (sz5 L 192) (y::k.drop (i+1)) acc=some (t,b)):=hFi
   have HL1:Hid (∀ (base n:Int) t w1,L base n=some t→G w1→Calls Tryz.prog 146 #[.int .i64 base, .int .i64 n] w1 fun e w'=>e= .returned (.string t)∧Below w1.heap.size w1 w'):=HL
   have HG:Hid (∀w w',G w→Below w.heap.size w w'→G w'):=hG
   have HA:Hid (∀i,i<k.length→ ∃ (a:Addr) (row:List Value),some (⟨ab,ao,none⟩:Addr)=some a∧a.spot=none∧a.block<w.heap.size∧row.length=3∧gzo w a.block (a.off+i*3) row∧ ∀ (h:i<k.length),RepI w ω k[i] row):=hA
   have HY:Hid (mzo L d y=some (t1,b1)):=hy1
   clear hFi HL hG hA hy1 hrep IH hra hF hok hb0 hI0
   cases b1 with
   |false=>
    go_wp2_with (go_at_call 115;refine cI.mono ?_;rintro e W1 ⟨rfl,k1⟩)
    have:=HF.out
    simp only[nzU,HY.out,Option.some.injEq,Prod.mk.injEq] at this
    obtain ⟨rfl,rfl⟩:=this
    go_ret2
    exact ⟨rfl,hbt.trans (k1.mono hbt.size)⟩
   |true=>
    have hlen:(Lib.byteCells acc.data.toList).length=acc.size:=by rw[Lib.byteCells_length];simp
    have hts:t1.size≤1000:=by
     by_cases h:t1.size≤1000
     ·exact h
     ·have:=HF.out
      simp only[nzU,HY.out,if_neg h] at this
      cases this
    by_cases h9:(900:Int)<(acc.size:Int)+(t1.size:Int)
    ·go_wp2_with (first| (go_at_call 115;refine cI.mono ?_;rintro e W1 ⟨rfl,k1⟩)| (go_at_call 147;refine (Any.Builder_Len_f Tryz.l170 _ _ _ _ (jzK (jzK hI hba) k1)).mono ?_;rw[hlen];rintro e W2 ⟨rfl,rfl⟩))
     have:=HF.out
     simp only[nzU,HY.out,if_pos hts,if_neg (show¬acc.size+t1.size≤900 by omega),Option.some.injEq,Prod.mk.injEq] at this
     obtain ⟨rfl,rfl⟩:=this
     go_ret2
     exact ⟨rfl,hbt.trans (k1.mono hbt.size)⟩
    ·go_wp2_with (first| (go_at_call 115;refine cI.mono ?_;rintro e W1 ⟨rfl,k1⟩)| (go_at_call 147;refine (Any.Builder_Len_f Tryz.l170 _ _ _ _ (jzK (jzK hI hba) k1)).mono ?_;rw[hlen];rintro e W2 ⟨rfl,rfl⟩))
     have hI2:=jzK (jzK hI hba) k1
     have hsz:w.heap.size+1≤W2.heap.size:=by
      have h1:=k1.size
      have h2:=hbw.size
      simp only[World.size_alloc] at h1
      omega
     refine (Any.Builder_WriteString_k Tryz.l166 Tryz.bx105 _ _ _ t1 W2 hI2 (by rw[hlen];omega) hsz).mono ?_
     rintro e W3 ⟨rfl,h3,k3,_⟩
     have hF2:nzU (mzo L d) (sz5 L 192) (k.drop (i+1)) (scat acc t1)=some (t,b):=by
      have:=HF.out
      simp only[nzU,HY.out,if_pos hts,if_pos (show acc.size+t1.size≤900 by omega)] at this
      exact this
     have hb3:Below w.heap.size w W3:=(hbt.trans (k1.mono hbt.size)).trans (k3.mono (by omega))
     have hI3:Lib.IsBuilderF Tryz.TB Tryz.TE (w.heap.size+1) (w.heap.size+1) (Lib.byteCells (scat acc t1).data.toList) W3:=by
      rw[Lib.strCells_eq,←Lib.byteCells_append] at h3
      have e:(scat acc t1).data.toList=acc.data.toList++t1.data.toList:=by unfold scat;simp
      rw[e]
      exact Or.inr h3
     clear HF HG HA HL1 HY cI h3 hI2
     go_wp2
     go_roundw
     case rel=>exact ⟨i+1,scat acc t1,by simp,by omega,by unfold scat;rw[ByteArray.size_append];omega,hb3,hI3,hF2⟩
     case measure=>simp [intOf];omega
  ·have hik:i=k.length:=by omega
   subst hik
   rw[List.drop_length] at hFi
   have hlen:(Lib.byteCells acc.data.toList).length=acc.size:=by rw[Lib.byteCells_length];simp
   simp only[nzU,sz5] at hFi
   cases hl1:L 192 (ssz acc) with
   |none=>rw[hl1] at hFi;cases hFi
   |some t1=>
   rw[hl1] at hFi
   simp only at hFi
   by_cases hts:t1.size≤100
   ·rw[if_pos hts] at hFi
    simp only[Option.some.injEq,Prod.mk.injEq] at hFi
    obtain ⟨rfl,rfl⟩:=hFi
    have cL:=HL 192 (acc.size:Int) t1 wr hl1 hgr
    clear HL IH hG hA hF hl1 hok hb0 hI0
    go_wp2_with (first| (go_at_call 147;refine (Any.Builder_Len_f Tryz.l170 _ _ _ _ hI).mono ?_;rw[hlen];rintro e W2 ⟨rfl,rfl⟩)| (go_at_call 146;refine cL.mono ?_;rintro e W3 ⟨rfl,k3⟩))
    have hsz:w.heap.size+1≤W3.heap.size:=by
     obtain ⟨v,hbk⟩: ∃v,W2.heap[w.heap.size+1]?=some v:=by
      rcases hI with ⟨_,v,h,_⟩| ⟨_,v,h,_⟩<;>exact ⟨_,h⟩
     have h1:=(Array.getElem?_eq_some_iff.1 hbk).1
     have h2:=k3.size
     omega
    refine (Any.Builder_String_any_k Tryz.l169 Tryz.bx105 _ _ acc.data.toList W3 (jzK hI k3) hsz).mono ?_
    rintro e W4 ⟨rfl,_,k4,_⟩
    go_wp2
    go_ret2
    refine ⟨?_,(hbw.trans (k3.mono hbw.size)).trans (k4.mono (by omega))⟩
    have e:(⟨acc.data.toList.toArray⟩:ByteArray)=acc:=by simp
    rw[e]
    rfl
   ·rw[if_neg hts] at hFi;cases hFi
end
namespace YtdfbhjpmdjmdaaaGreatDoor
open Go.TV Go.RowKit
noncomputable def lenF (base n:Int):Option ByteArray:=(cz5 (base,(n,()))).map fun r=>r.1.1
open Classical in
noncomputable def kzx:ItemT×Unit→Option ((ByteArray×Bool×Unit)×Unit):=fun x=>if qzK 5 x.1=true then (mzo lenF 5 x.1).map fun p=>((p.1,(p.2,())),()) else none
noncomputable abbrev uzN:Sig:=⟨[pa .item],[rt .str,rt .bool],false,kzx⟩
theorem Qzk (d:Nat) (s t:ByteArray) (k:List ItemT) (b:Bool) (hs:s.size≤600) (h:mzo lenF (d+1) (.mk false s k)=some (t,b)):mzr (.mk false s k,())=some ((t,(b,())),()):=by
 simp only[mzo,Bool.false_eq_true,if_false] at h
 have hD: ¬(s.size=1∧sat s 0<128)→hzi (.mk false s k,())=some ((t,(b,())),()):=fun hn=>by
  rw[if_neg hn] at h
  simp only[sz5,lenF] at h
  rw[yzO]
  show Go.TV.bnd (cz5 (128,(ssz s,()))) _=_
  cases hl:cz5 (128,(ssz s,())) with
  |none=>rw[hl] at h;cases h
  |some r=>
   rw[hl] at h
   simp only[Option.map_some] at h
   split at h
   case isFalse=>cases h
   rename_i hz
   cases h
   rw[azd]
   show Go.TV.cnd (fits (ssz r.1.1+ssz s) 1) _ _=_
   rw[ezs (by omega),aza]
   rfl
 rw[Czl]
 show Go.TV.cnd (bnot false) (Go.TV.cnd (ieq (ssz s) 1) (Go.TV.cnd (inb 0 (ssz s)) (Go.TV.cnd (ilt (sat s 0) 128) _ _) _) _) _=_
 rw[show bnot false=true from rfl,aza]
 by_cases h1:s.size=1
 ·rw[czd,decide_eq_true (show ssz s=1 by rw[azN];omega),aza,show inb 0 (ssz s)=true by rw[azN];exact bzI (by omega) (by omega),aza]
  by_cases h2:sat s 0<128
  ·rw[bzW h2,aza]
   rw[if_pos ⟨h1,h2⟩] at h
   cases h
   rfl
  ·rw[az7 (by omega),azc]
   exact hD fun hh=>h2 hh.2
 ·rw[czd,decide_eq_false (show¬ssz s=1 by rw[azN];omega),azc]
  exact hD fun hh=>h1 hh.1
def uzB:azw:=fun _=>none
theorem FzH {w w':World} (h:Below w.heap.size w w'):azJ w w' uzB uzB:=fun b hb _=>⟨rfl,h.block b hb⟩
theorem DzW {w w':World} {ω':azw} (h:Evo w w' uzB ω'):Below w.heap.size w w':=⟨h.os,h.tape,h.output,h.size,fun k hk=>(h.still k hk rfl).2⟩
theorem Jzj {η:Pins} {w w':World} (h:vzF gls gvs w uzB η) (hb:Below w.heap.size w w'):vzF gls gvs w' uzB η:=fun i t x o hi=>(h i t x o hi).keep rfl (FzH hb) (fun _ _=>rfl) (fun _ h=>h.elim) (fun _ h=>h.elim)
theorem KzB {η:Pins} (base n:Int) (t:ByteArray) (w:World) (h:lenF base n=some t) (hg:vzF gls gvs w uzB η):Calls Tryz.prog 146 #[.int .i64 base, .int .i64 n] w fun e w'=>e= .returned (.string t)∧Below w.heap.size w w':=by
 unfold lenF at h
 obtain ⟨r,h1,rfl⟩:=Option.map_eq_some_iff.1 h
 refine (szD.calls w uzB η (base,(n,())) [.int .i64 base, .int .i64 n] r hg ⟨⟨[.int .i64 base],rfl,rfl⟩,⟨[.int .i64 n],rfl,rfl⟩,trivial⟩ (fun b hb=>absurd rfl hb) h1).mono ?_
 intro e w' hh
 match e,hh with
 | .returned v,⟨ω',vs,he,_,hr,hv,_⟩=>
   match vs,hr with
   | [v1],⟨⟨cs,c1,c2⟩,_⟩=>
     have c1':cs=[.string r.1.1]:=c1
     subst c1'
     have e1:v1= .string r.1.1:=c2
     subst e1
     exact ⟨by rw[hv];rfl,DzW he⟩
theorem itemW {η:Pins}: ∀ (d:Nat) (x:ItemT),qzK d x=true→ ∀t b,mzo lenF d x=some (t,b)→ ∀w cs,vzF gls gvs w uzB η→RepI w uzB x cs→Calls Tryz.prog 115 #[.agg cs.toArray] w fun e w'=>e= .returned (.tuple #[.string t, .bool b])∧Below w.heap.size w w'
 |0,x,hok,_,_,_,_,_,_,_=>by cases hok
 |d+1, .mk false s k,hok,t,b,hF,w,cs,hg,hr=>by
  have hs:s.size≤600:=Nat.le_of_ble_eq_true hok
  refine (Bzy.calls w uzB η (.mk false s k,()) [.agg cs.toArray] _ hg ⟨⟨cs,hr,rfl⟩,trivial⟩ (fun b hb=>absurd rfl hb) (Qzk d s t k b hs hF)).mono ?_
  intro e w' hh
  match e,hh with
  | .returned v,⟨ω',vs,he,_,hr,hv,_⟩=>
    match vs,hr with
    | [v1,v2],⟨⟨cs1,c1,c2⟩,⟨cs2,c3,c4⟩,_⟩=>
      have c1':cs1=[.string t]:=c1
      have c3':cs2=[.bool b]:=c3
      subst c1';subst c3'
      have e1:v1= .string t:=c2
      have e2:v2= .bool b:=c4
      subst e1;subst e2
      exact ⟨by rw[hv];rfl,DzW he⟩
 |d+1, .mk true s k,hok,t,b,hF,w,cs,hg,hr=>by
  have hok':(Nat.ble k.length 17&&k.all (qzK d))=true:=hok
  rw[Bool.and_eq_true] at hok'
  have hF':nzU (mzo lenF d) (sz5 lenF 192) k ⟨#[]⟩=some (t,b):=by simpa only[mzo,if_true] using hF
  cases hr with
  |mk l s k A c a row hc hA hrr=>
   refine Nz4 lenF (fun w=>vzF gls gvs w uzB η) (fun w w' h1 h2=>Jzj h1 h2) uzB (fun base n t w1 h1 h2=>KzB base n t w1 h1 h2) d (itemW d) s k A c t b w hg (Nat.le_of_ble_eq_true hok'.1) hok'.2 hc hF' fun i hi=>?_
   obtain ⟨h0,h1,h2,h3,h4⟩:=hA i hi
   exact ⟨a i,row i,h0,h1,h2.1,h3,h4,fun h=>hrr i h⟩
theorem DzQ:CallsOk Tryz.prog gls gvs 115 uzN:=⟨rfl,enters_of Tryz.func115 (by kernel_rfl) rfl,fun w ω η x vals r hg ha hlt hF=>by
 obtain ⟨x,u⟩:=x
 change (if qzK 5 x=true then (mzo lenF 5 x).map fun p=>((p.1,(p.2,())),()) else none)=some r at hF
 split at hF
 case isFalse=>cases hF
 rename_i hok
 obtain ⟨p,h1,rfl⟩:=Option.map_eq_some_iff.1 hF
 match vals,ha with
 | [v1],⟨⟨cs,a1,a2⟩,_⟩=>
   have e1:v1= .agg cs.toArray:=a2
   subst e1
   have hr:RepI w ω x cs:=a1
   have hst:azJ w w ω uzB:=fun b _ _=>⟨rfl,rfl⟩
   refine (itemW (η:=η) 5 x hok p.1 p.2 h1 w cs (fun i t x o hi=>(hg i t x o hi).keep rfl hst (fun _ _=>rfl) (fun _ h=>h.elim) (fun _ h=>h.elim)) (hr.mono hst)).mono ?_
   rintro e w' ⟨rfl,hb⟩
   exact ⟨ω,[.string p.1, .bool p.2],wzS hb hlt,fun b hb'=>Nat.lt_of_lt_of_le (hlt b hb') hb.size,⟨⟨[.string p.1],rfl,rfl⟩,⟨[.bool p.2],rfl,rfl⟩,trivial⟩,rfl,trivial⟩⟩
end YtdfbhjpmdjmdaaaGreatDoor
end Go.Proofs
