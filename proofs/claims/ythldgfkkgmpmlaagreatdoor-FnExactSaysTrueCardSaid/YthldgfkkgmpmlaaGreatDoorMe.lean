/- What a Go function computes, told as a function of plain data, and that it is so. Of no condition. Plain laws: numbers, tests, lists; what is marked and held. A callee of numbers and texts that is told by a contract of the kit. -/
import Derived.Test.YthldgfkkgmpmlaaGreatDoorMd
import Derived.Lib.LaidTab
set_option linter.unusedVariables false
set_option linter.unusedSimpArgs false
namespace Go.TV
theorem azb {α β:Type} {x:α} {f:α→Option β}:bnd (some x) f=f x:=rfl
theorem aza {α:Type} {x y:α}:cnd true x y=x:=rfl
theorem azc {α:Type} {x y:α}:cnd false x y=y:=rfl
theorem uzV {α:Type} {p:Prop} [Decidable p] {x y:α}:cnd (decide p) x y=if p then x else y:=by by_cases h:p<;>simp [h,cnd]
theorem kzG {α:Type} {b:Bool} {x y:α}:cnd (!b) x y=cnd b y x:=by cases b<;>rfl
theorem uzq {α β:Type} {x:Option α} {a:α} {f:α→Option β} {r:Option β} (h:x=some a) (k:f a=r):bnd x f=r:=by rw[h];exact k
theorem nzf {α:Type} {c:Bool} {x y r:α} (h:c=false) (k:y=r):cnd c x y=r:=by rw[h];exact k
theorem Hzh {α:Type} {c:Bool} {x y r:α} (h:c=true) (k:x=r):cnd c x y=r:=by rw[h];exact k
theorem WzP {x y:Int}:ilt x y=decide (x<y):=rfl
theorem ez3 {x y:Int}:ile x y=decide (x≤y):=rfl
theorem igt_d {x y:Int}:igt x y=decide (y<x):=rfl
theorem czK {x y:Int}:ige x y=decide (y≤x):=rfl
theorem czl {x y:Int}:ieq x y=decide (x=y):=by by_cases h:x=y<;>simp [ieq,h]
theorem dzb {x y:Int}:ine x y=!decide (x=y):=by by_cases h:x=y<;>simp [ine,h]
theorem nz_d {x:Int}:nz x=!decide (x=0):=by by_cases h:x=0<;>simp [nz,h]
theorem nn_d {x:Int}:nn x=decide (0≤x):=rfl
theorem MzX {b:Bool}:bnot b=!b:=rfl
theorem bz0 {i n:Int} (h0:0≤i) (h1:i<n):inb i n=true:=by simp [inb,h0,h1]
theorem bzt {i j n:Int} (h0:0≤i) (h1:i≤j) (h2:j≤n):inb2 i j n=true:=by simp [inb2,h0,h1,h2]
theorem bzT {x y:Int} (h:x<y):ilt x y=true:=decide_eq_true h
theorem az0 {x y:Int} (h:y≤x):ilt x y=false:=decide_eq_false (by omega)
theorem bzU {x y:Int} (h:y<x):igt x y=true:=decide_eq_true h
theorem bzi {x y:Int} (h:x≤y):igt x y=false:=decide_eq_false (by omega)
theorem VzB {n:Int} {z:Nat} (h0:0≤n) (h:n*((z+1:Nat):Int)≤1099511627776):fits n z=true:=(uzR h0).2 h
theorem azA {x y:Int} (h0: -9223372036854775808≤x+y) (h1:x+y≤9223372036854775807):iadd .i64 x y=x+y:=iz2 h0 h1
theorem az4 {x y:Int} (h0: -9223372036854775808≤x-y) (h1:x-y≤9223372036854775807):isub .i64 x y=x-y:=iz2 h0 h1
theorem fzq {x y:Int} (h0: -9223372036854775808≤x*y) (h1:x*y≤9223372036854775807):imul .i64 x y=x*y:=iz2 h0 h1
theorem nzM {x y:Int} (h0:0≤x) (h1:x≤9223372036854775807) (hy:0<y):iquo .i64 x y=x/y:=by
 unfold iquo
 rw[Int.tdiv_eq_ediv_of_nonneg h0]
 have h2:=Int.ediv_le_self y h0
 have h3:=Int.ediv_nonneg h0 (Int.le_of_lt hy)
 exact iz2 (by omega) (by omega)
theorem izS {x y:Int} (h0:0≤x):irem x y=x % y:=Int.tmod_eq_emod_of_nonneg h0
section
variable {α:Type} {z v w:α} {xs:List α} {i:Nat}
theorem bzs (h:i<xs.length):rd z xs (i:Int)=xs[i]:=by simp [rd,h]
theorem VzM:upd xs (i:Int) v=xs.set i v:=by simp [upd]
theorem azP (h:i<xs.length):inb (i:Int) (len xs)=true:=bz0 (by omega) (by simp only[len];omega)
theorem bzh (h:i<xs.length):ilt (i:Int) (len xs)=true:=bzT (by simp only[len];omega)
theorem az7:ilt (xs.length:Int) (len xs)=false:=az0 (by simp only[len];omega)
theorem azq (h:i<4611686018427387904):iadd .i64 (i:Int) 1=((i+1:Nat):Int):=by rw[azA (by omega) (by omega)];omega
end
theorem WzL (s:ByteArray): ∀ (n i:Nat) (r:List UInt8),s.size-i=n→ByteArray.toList.loop s i r=r.reverse++s.data.toList.drop i:=by
 intro n
 induction n with
 |zero=>
  intro i r h
  unfold ByteArray.toList.loop
  rw[if_neg (by omega),List.drop_eq_nil_of_le (by rw[Array.length_toList];show s.size≤i;omega)]
  simp
 |succ n ih=>
  intro i r h
  unfold ByteArray.toList.loop
  rw[if_pos (by omega),ih (i+1) _ (by omega)]
  have hi:i<s.data.toList.length:=by rw[Array.length_toList];show i<s.size;omega
  rw[List.drop_eq_getElem_cons hi]
  have:s.get! i=s.data.toList[i]:=by
   have h2:i<s.data.size:=by simpa using hi
   rw[Array.getElem_toList]
   show s.data.get!Internal i=s.data[i]
   rw[Array.get!Internal_eq_getElem!]
   exact getElem!_pos s.data i h2
  rw[this]
  simp
theorem IzL (s:ByteArray):s.toList=s.data.toList:=by
 unfold ByteArray.toList
 rw[WzL s _ 0 [] rfl];simp
theorem yzX {x y:ByteArray} (h:x.data.toList=y.data.toList):x=y:=ByteArray.ext (Array.toList_inj.1 h)
theorem WzZ {x y:ByteArray}:seq x y=true↔x=y:=by
 unfold seq
 rw[beq_iff_eq,IzL,IzL]
 exact ⟨yzX,fun h=>by rw[h]⟩
theorem xzQ {x y:ByteArray}:seq x y=decide (x=y):=by
 by_cases h:x=y
 ·simp [h,seq]
 ·have: ¬seq x y=true:=fun e=>h (WzZ.1 e)
  simp [h,this]
theorem szz {x y:ByteArray}:sne x y=!decide (x=y):=by rw[←xzQ];rfl
theorem mzr {l:List Nat}:(bs l).size=l.length:=by simp [bs,ByteArray.size]
theorem azI {l:List Int}:(sof l).size=l.length:=by simp [sof,ByteArray.size]
theorem azw {x y:ByteArray}:(scat x y).size=x.size+y.size:=by simp [scat,ByteArray.size_append]
theorem azL {x:ByteArray}:ssz x=(x.size:Int):=by simp [ssz]
theorem azz {α:Type} {xs:List α}:len xs=(xs.length:Int):=by simp [len]
theorem ezn {x y:ByteArray} (h:x.size+y.size≤549755813888):fits (ssz x+ssz y) 1=true:=VzB (by simp only[azL];omega) (by simp only[azL];omega)
theorem azv {α:Type} {xs ys:List α} {z:Nat} (hz:z<128) (h:xs.length+ys.length≤8589934592):fits (len xs+len ys) z=true:=by
 refine VzB (by simp only[azz];omega) ?_
 simp only[azz]
 refine Int.le_trans (Int.mul_le_mul (c:=(8589934592:Int)) (d:=(128:Int)) (by omega) (by omega) (by omega) (by omega)) (by omega)
theorem SzOk.congr {t:Ty} {f g:t.den× (Int×Unit)→Option ((Int×Unit)×Unit)} (h:SzOk t g) (e: ∀x n,f (x,(n,()))=g (x,(n,()))):SzOk t f:=fun x n hg h0 hn=>by rw[e];exact h x n hg h0 hn
theorem ToOk.congr {t:Ty} {f g:t.den×Unit→Option ((t.den×Unit)×Unit)} (h:ToOk t g) (e: ∀x,f (x,())=g (x,())):ToOk t f:=fun x hg=>by rw[e];exact h x hg
theorem EqOk.congr {t:Ty} {f g:t.den× (t.den×Unit)→Option ((Bool×Unit)×Unit)} (h:EqOk t g) (e: ∀x y,f (x,(y,()))=g (x,(y,()))):EqOk t f:=fun x hg=>by rw[e];exact h x hg
theorem VzE {t:Ty} (ht: ∀x:t.den,Lz2 t x):SzOk (.sl t) (fun x=>cnd (ilt (isub .i64 x.2.1 (len x.1)) 0) (some ((-1,()),())) (some (((isub .i64 x.2.1 (len x.1)),()),()))):=by
 intro xs n hg h0 hn
 change List t.den at xs
 have hl:xs.length≤maxLen:=hg.1
 have hm:(xs.length:Int)≤9223372036854775807:=by
  have:maxLen=9223372036854775807:=rfl
  omega
 have hq:isub .i64 n (len xs)=n-xs.length:=wzE h0 hn (by simp [len]) hm
 simp only[hq]
 by_cases hc:n-xs.length<0
 ·simp only[ilt,hc,decide_true,cnd,cond_true]
  exact ⟨-1,rfl,fun h=>by omega⟩
 ·simp only[ilt,hc,decide_false,cnd,cond_false]
  exact ⟨_,rfl,fun h=>⟨by omega,by omega,fun x _=>ht x⟩⟩
def mkL {E:Type} (e:E→Int→E×Int):List E→Int→List E×Int
 | [],k=>([],k)
 |y::ys,k=>((e y k).1::(mkL e ys (e y k).2).1,(mkL e ys (e y k).2).2)
def MkOk (t:Ty) (fm:t.den× (Int×Unit)→Option ((Int×Unit)× (t.den×Unit))) (fh:t.den× (Int×Unit)→Option ((Int×Unit)×Unit)) (B:Nat) (mk:t.den→Int→t.den×Int):Prop:=
 ∀x k,Fine t x→0<k→k+(B:Int)≤1152921504606846976→fm (x,(k,()))=some (((mk x k).2,()),((mk x k).1,()))∧fh ((mk x k).1,(k,()))=some (((mk x k).2,()),())∧k≤(mk x k).2∧(mk x k).2≤k+(B:Int)
def Mk1 (t:Ty) (fm:t.den× (Int×Unit)→Option ((Int×Unit)× (t.den×Unit))) (B:Nat) (mk:t.den→Int→t.den×Int):Prop:=
 ∀x k,Fine t x→0<k→k+(B:Int)≤1152921504606846976→fm (x,(k,()))=some (((mk x k).2,()),((mk x k).1,()))∧k≤(mk x k).2∧(mk x k).2≤k+(B:Int)
theorem MkOk.one {t:Ty} {fm:t.den× (Int×Unit)→Option ((Int×Unit)× (t.den×Unit))} {fh:t.den× (Int×Unit)→Option ((Int×Unit)×Unit)} {B:Nat} {mk:t.den→Int→t.den×Int} (h:MkOk t fm fh B mk):Mk1 t fm B mk:=fun x k a b c=>⟨(h x k a b c).1,(h x k a b c).2.2⟩
theorem MkOk.slice {t:Ty} {B:Nat} {Dm:List t.den× (Int× (Int×Unit))→Option ((Int×Unit)× (List t.den×Unit))} {Dh:List t.den× (Int× (Int×Unit))→Option ((Int×Unit)×Unit)}
 {fm:List t.den× (Int×Unit)→Option ((Int×Unit)× (List t.den×Unit))} {fh:List t.den× (Int×Unit)→Option ((Int×Unit)×Unit)} (e:t.den→Int→t.den×Int)
 (hfm: ∀x k,fm (x,(k,()))=Dm (x,(k,(0,())))) (hfh: ∀x k,fh (x,(k,()))=Dh (x,(k,(0,()))))
 (sm: ∀ (xs:List t.den) (k:Int) (i:Nat) (h:i<xs.length),i<16777216→0<k→k+(B:Int)≤1152921504606846976→Fine t xs[i]→Dm (xs,(k,((i:Int),())))=Dm (upd xs (i:Int) (e xs[i] k).1,((e xs[i] k).2,(((i+1:Nat):Int),()))))
 (em: ∀ (xs:List t.den) (k:Int),Dm (xs,(k,((xs.length:Int),())))=some ((k,()),(xs,())))
 (sh: ∀ (xs:List t.den) (k:Int) (i:Nat) (h:i<xs.length) (y:t.den),i<16777216→0<k→k+(B:Int)≤1152921504606846976→Fine t y→xs[i]=(e y k).1→Dh (xs,(k,((i:Int),())))=Dh (xs,((e y k).2,(((i+1:Nat):Int),()))))
 (eh: ∀ (xs:List t.den) (k:Int),Dh (xs,(k,((xs.length:Int),())))=some ((k,()),()))
 (le: ∀y k,Fine t y→0<k→k+(B:Int)≤1152921504606846976→k≤(e y k).2∧(e y k).2≤k+B):
 MkOk (.sl t) fm fh (16777216*B) (mkL e):=by
 have bound: ∀ (suf:List t.den) (k:Int),(∀y∈suf,Fine t y)→0<k→k+(suf.length*B:Nat)≤1152921504606846976→k≤(mkL e suf k).2∧(mkL e suf k).2≤k+(suf.length*B:Nat):=by
  intro suf
  induction suf with
  |nil=>intro k _ _ _;simp [mkL]
  |cons y ys ih=>
   intro k hf h0 hk
   simp only[List.length_cons,Nat.add_mul,Nat.one_mul] at hk
   obtain ⟨l1,l2⟩:=le y k (hf y (by simp)) h0 (by omega)
   obtain ⟨q1,q2⟩:=ih (e y k).2 (fun z hz=>hf z (by simp [hz])) (by omega) (by omega)
   simp only[mkL,List.length_cons,Nat.add_mul,Nat.one_mul]
   omega
 have runM: ∀ (suf pre:List t.den) (k:Int),pre.length+suf.length≤16777216→(∀y∈suf,Fine t y)→0<k→k+(suf.length*B:Nat)≤1152921504606846976→Dm (pre++suf,(k,((pre.length:Int),())))=some (((mkL e suf k).2,()),(pre++(mkL e suf k).1,())):=by
  intro suf
  induction suf with
  |nil=>intro pre k _ _ _ _;simp only[List.append_nil,mkL];exact em pre k
  |cons y ys ih=>
   intro pre k hl hf h0 hk
   simp only[List.length_cons,Nat.add_mul,Nat.one_mul] at hk hl
   obtain ⟨l1,l2⟩:=le y k (hf y (by simp)) h0 (by omega)
   have hi:pre.length<(pre++y::ys).length:=by simp
   have hy:(pre++y::ys)[pre.length]=y:=by simp
   rw[sm (pre++y::ys) k pre.length hi (by omega) h0 (by omega) (by rw[hy];exact hf y (by simp)),hy,VzM]
   have hs:(pre++y::ys).set pre.length (e y k).1=(pre++[(e y k).1])++ys:=by simp
   rw[hs]
   have:=ih (pre++[(e y k).1]) (e y k).2 (by simp;omega) (fun z hz=>hf z (by simp [hz])) (by omega) (by omega)
   simp only[List.length_append,List.length_singleton] at this
   rw[this]
   simp [mkL]
 have runH: ∀ (suf pre:List t.den) (k:Int),pre.length+suf.length≤16777216→(∀y∈suf,Fine t y)→0<k→k+(suf.length*B:Nat)≤1152921504606846976→Dh (pre++(mkL e suf k).1,(k,((pre.length:Int),())))=some (((mkL e suf k).2,()),()):=by
  intro suf
  induction suf with
  |nil=>intro pre k _ _ _ _;simp only[List.append_nil,mkL];exact eh pre k
  |cons y ys ih=>
   intro pre k hl hf h0 hk
   simp only[List.length_cons,Nat.add_mul,Nat.one_mul] at hk hl
   obtain ⟨l1,l2⟩:=le y k (hf y (by simp)) h0 (by omega)
   simp only[mkL]
   have hi:pre.length<(pre++(e y k).1::(mkL e ys (e y k).2).1).length:=by simp
   rw[sh _ k pre.length hi y (by omega) h0 (by omega) (hf y (by simp)) (by simp)]
   have:=ih (pre++[(e y k).1]) (e y k).2 (by simp;omega) (fun z hz=>hf z (by simp [hz])) (by omega) (by omega)
   simp only[List.length_append,List.length_singleton,List.append_assoc,List.singleton_append] at this
   exact this
 have hB: ∀ (x:List t.den),x.length≤16777216→(x.length*B:Nat)≤16777216*B:=fun x h=>Nat.mul_le_mul_right _ h
 intro x k hf h0 hk
 have:=hB x hf.1
 have h1:=runM x [] k (by simpa using hf.1) hf.2 h0 (by omega)
 have h2:=runH x [] k (by simpa using hf.1) hf.2 h0 (by omega)
 have h3:=bound x k hf.2 h0 (by omega)
 rw[hfm,hfh]
 exact ⟨by simpa using h1,by simpa using h2,h3.1,by omega⟩
end Go.TV
namespace Go.TV
open Go.RowKit
def UzY:Ty→Bool
 | .int _=>true
 | .bool=>true
 | .str=>true
 |_=>false
def Uzq:(t:Ty)→t.den→Value
 | .int k,n=> .int k n
 | .bool,b=> .bool b
 | .str,s=> .string s
 |_,_=>Go.undef
def zza:(ps:List Par)→azM ps→List Value
 | [],_=>[]
 |p::ps,x=>Uzq p.t x.1::zza ps x.2
def Dz1:(rs:List Rt)→bzS rs→List Value
 | [],_=>[]
 |r::rs,x=>Uzq r.t x.1::Dz1 rs x.2
def Pzv (p:Par):Bool:=UzY p.t&&!p.ptr&&!p.io&&p.m.isSh
def UzM (r:Rt):Bool:=UzY r.t&&!r.ptr&&r.m.isSh
section
variable {P:Program} {gl:Nat→Option VV} {gv:Nat→Value} {w:World} {ω:azt} {η:Pins}
theorem Uzm: ∀ {t:Ty} {pa:Path} {x:t.den} {cs:List Value},UzY t=true→Rep w ω η t pa .sh x cs→mkV t cs=Uzq t x
 | .int k,_,x,cs,_,h=>by
   have:cs=[.int k x]:=h
   rw[this];rfl
 | .bool,_,x,cs,_,h=>by
   have:cs=[.bool x]:=h
   rw[this];rfl
 | .str,_,x,cs,_,h=>by
   have:cs=[.string x]:=h
   rw[this];rfl
theorem UzD: ∀ {t:Ty} (pa:Path) (x:t.den),UzY t=true→ ∃cs,Rep w ω η t pa .sh x cs∧Uzq t x=mkV t cs
 | .int k,_,x,_=>⟨[.int k x],rfl,rfl⟩
 | .bool,_,x,_=>⟨[.bool x],rfl,rfl⟩
 | .str,_,x,_=>⟨[.string x],rfl,rfl⟩
theorem Azz: ∀ (ps:List Par) (k:Nat) (x:azM ps) (vs:List Value),ps.all Pzv=true→izz w ω η k ps x vs→vs=zza ps x
 | [],_,_,[],_,_=>rfl
 |p::ps,k,x,v::vs,h,ha=>by
  simp only[List.all_cons,Bool.and_eq_true] at h
  obtain ⟨hp,hps⟩:=h
  simp only[Pzv,Bool.and_eq_true,Bool.not_eq_true'] at hp
  obtain ⟨⟨⟨h1,h2⟩,h3⟩,h4⟩:=hp
  obtain ⟨ha1,ha2⟩:=ha
  rw[h2] at ha1
  obtain ⟨cs,h5,h6⟩:=ha1
  rw[BzA h4] at h5
  simp only[zza]
  rw[Azz ps (k+1) x.2 vs hps ha2,h6,Uzm h1 h5]
 | [],_,_,_::_,_,h=>by cases h
 |_::_,_,_,[],_,h=>by cases h
theorem BzC: ∀ (ps:List Par) (k:Nat) (y:azN ps) (x:azM ps),ps.all Pzv=true→lz4 w ω η k ps y (zza ps x)
 | [],_,_,_,_=>trivial
 | ⟨t,m,io,ptr,bx⟩::ps,k,y,x,h=>by
   simp only[List.all_cons,Bool.and_eq_true] at h
   obtain ⟨hp,hps⟩:=h
   simp only[Pzv,Bool.and_eq_true,Bool.not_eq_true'] at hp
   obtain ⟨⟨⟨h1,h2⟩,h3⟩,h4⟩:=hp
   subst h3
   exact BzC ps (k+1) y x.2 hps
theorem AzR: ∀ (rs:List Rt) (k:Nat) (x:bzS rs),rs.all UzM=true→lzQ w ω η k rs x (Dz1 rs x)
 | [],_,_,_=>trivial
 |r::rs,k,x,h=>by
  simp only[List.all_cons,Bool.and_eq_true] at h
  obtain ⟨hp,hps⟩:=h
  simp only[UzM,Bool.and_eq_true,Bool.not_eq_true'] at hp
  obtain ⟨⟨h1,h2⟩,h4⟩:=hp
  refine ⟨?_,AzR rs (k+1) x.2 hps⟩
  rw[h2,BzA h4]
  exact UzD _ x.1 h1
theorem Czs {w':World} (h:Below w.heap.size w w') (hlt: ∀b,ω b≠none→b<w.heap.size):Evo w w' ω ω:=
 ⟨h.os,h.tape,h.output,h.size,fun b hb hn=>⟨hn,h.block b hb⟩,fun b q hq=>⟨hq,h.block b (hlt b (by rw[hq];simp))⟩⟩
theorem CallsOk.leaf {f:Nat} {ps:List Par} {rs:List Rt} {F:azM ps→Option (bzS rs×azN ps)} (hok:Sig.ok ⟨ps,rs,false,F⟩=true) (he: ∀args w,(callFunc f args).run P w= .ok (.enter f args) w) (hp:ps.all Pzv=true) (hr:rs.all UzM=true)
 (h: ∀x r w,F x=some r→Calls P f (zza ps x).toArray w fun e w'=>e= .returned (retV (Dz1 rs r.1))∧Below w.heap.size w w'):CallsOk P gl gv f ⟨ps,rs,false,F⟩:=
 ⟨hok,he,fun w ω η x vals r _ ha hl hF=>by
  have hv:vals=zza ps x:=Azz ps 0 x vals hp ha
  subst hv
  refine (h x r w hF).mono fun e w' h=>?_
  obtain ⟨rfl,hb⟩:=h
  exact ⟨ω,Dz1 rs r.1,Czs hb hl,fun b hb'=>Nat.lt_of_lt_of_le (hl b hb') hb.size,AzR rs 0 r.1 hr,rfl,BzC ps 0 r.2 x hp⟩⟩
theorem tab_is (hg:zzh gl gv w ω η) {i n:Nat} {k:IntKind} {xs:List Int} {name:String} (hi:gl i=some (.cp (.arr n (.int k)) xs 0)) (hv:gv i= .pointer (some ⟨i,0,none⟩)) (hn:P.globalNamed name=some i):Lib.TabIs P w name k xs:=by
 obtain ⟨b,off,row,h1,h2,h3,h4,h5,cells,e,fr,h6,h7,h8⟩:=hg i _ _ _ hi
 subst h8
 rw[hv] at h1
 cases h1
 obtain ⟨q1,q2,q3⟩:xs.length=n∧row.length=n*(Ty.int k).sz∧ ∀i x,xs[i]?=some x→Rep w ω η (.int k) [] .sh x ((row.drop (i*(Ty.int k).sz)).take (Ty.int k).sz):=h5
 have hs:(Ty.int k).sz=1:=rfl
 have hsz:(Ty.arr n (.int k)).sz=n:=by simp [Ty.sz]
 rw[hsz] at h7
 simp only[hs,Nat.mul_one] at q2 q3
 unfold Lib.TabIs World.var?
 rw[hn]
 simp only[Option.bind_some,h6]
 congr 1
 apply Array.ext'
 refine List.ext_getElem? fun j=>?_
 rcases Nat.lt_or_ge j n with hj|hj
 ·have hx:xs[j]?=some xs[j]:=List.getElem?_eq_getElem (by omega)
  have h9:(row.drop j).take 1=[.int k xs[j]]:=q3 j _ hx
  have h10:row[j]?=some (.int k xs[j]):=by
   have:=congrArg (·[0]?) h9
   simpa [List.getElem?_take,List.getElem?_drop] using this
  have h11:=h4 j _ h10
  simp only[World.cell?,h6,Nat.zero_add] at h11
  simp only[Array.getElem?_toList,List.getElem?_map,hx,Option.map_some]
  simpa using h11
 ·rw[List.getElem?_eq_none (by rw[Array.length_toList];omega),List.getElem?_eq_none (by simp;omega)]
theorem Rz1 {i n:Nat} {k:IntKind} {xs:List Int} {name:String} (h:Lib.TabIs P w name k xs) (hn:P.globalNamed name=some i) (hl:xs.length=n):GV w (fun _=>none) η (.arr n (.int k)) xs 0 (.pointer (some ⟨i,0,none⟩)):=by
 unfold Lib.TabIs World.var? at h
 rw[hn] at h
 simp only[Option.bind_some] at h
 split at h
 ·rename_i cs e fr hi
  cases h
  have hsz:(Ty.arr n (.int k)).sz=n:=by simp [Ty.sz]
  refine ⟨i,0,xs.map fun z=>Value.int k z,rfl,⟨(Array.getElem?_eq_some_iff.1 hi).1,rfl⟩,by rw[hsz,List.length_map,hl],fun j v hj=>?_,?_,_,e,fr,hi,by rw[hsz];simp [hl],rfl⟩
  ·simp only[World.cell?,hi,Nat.zero_add]
   simpa using hj
  ·refine ⟨hl,by simp [Ty.sz,hl],fun j x hx=>?_⟩
   show List.take 1 (List.drop (j*1) _)=[Value.int k x]
   rw[Nat.mul_one]
   have hj:j<xs.length:=(List.getElem?_eq_some_iff.1 hx).1
   have hx':xs[j]=x:=(List.getElem?_eq_some_iff.1 hx).2
   rw[List.drop_eq_getElem_cons (by simpa using hj)]
   simp [hx']
 ·cases h
theorem CallsOk.leafG {f:Nat} {ps:List Par} {rs:List Rt} {F:azM ps→Option (bzS rs×azN ps)} (hok:Sig.ok ⟨ps,rs,false,F⟩=true) (he: ∀args w,(callFunc f args).run P w= .ok (.enter f args) w) (hp:ps.all Pzv=true) (hr:rs.all UzM=true)
 (h: ∀x r w ω η,zzh gl gv w ω η→F x=some r→Calls P f (zza ps x).toArray w fun e w'=>e= .returned (retV (Dz1 rs r.1))∧Below w.heap.size w w'):CallsOk P gl gv f ⟨ps,rs,false,F⟩:=
 ⟨hok,he,fun w ω η x vals r hg ha hl hF=>by
  have hv:vals=zza ps x:=Azz ps 0 x vals hp ha
  subst hv
  refine (h x r w ω η hg hF).mono fun e w' h=>?_
  obtain ⟨rfl,hb⟩:=h
  exact ⟨ω,Dz1 rs r.1,Czs hb hl,fun b hb'=>Nat.lt_of_lt_of_le (hl b hb') hb.size,AzR rs 0 r.1 hr,rfl,BzC ps 0 r.2 x hp⟩⟩
end
end Go.TV
