/- Numbers that are read, and what stands ahead of so many bytes. Of no condition. -/
import Derived.Test.YtdfbhjpmdjmdaaaGreatDoorTP
set_option linter.unusedVariables false
set_option linter.unusedSimpArgs false
set_option maxRecDepth 100000
namespace Go.Proofs.YtdfbhjpmdjmdaaaGreatDoor
open Go.TV
def Has (t:ByteArray) (p:Nat) (u:ByteArray):Prop:=p+u.size≤t.size∧u.data.toList<+:t.data.toList.drop p
theorem lenL (s:ByteArray):s.data.toList.length=s.size:=Array.length_toList
theorem Oz6 (a b:ByteArray):(scat a b).data.toList=a.data.toList++b.data.toList:=by simp [scat,ByteArray.data_append]
theorem Has.fst {t a b:ByteArray} {p:Nat} (h:Has t p (scat a b)):Has t p a:=by
 obtain ⟨h1,r,h2⟩:=h
 rw[azu] at h1
 rw[Oz6,List.append_assoc] at h2
 exact ⟨by omega,_,h2⟩
theorem Has.snd {t a b:ByteArray} {p:Nat} (h:Has t p (scat a b)):Has t (p+a.size) b:=by
 obtain ⟨h1,r,h2⟩:=h
 rw[azu] at h1
 rw[Oz6,List.append_assoc] at h2
 refine ⟨by omega,r,?_⟩
 rw[←List.drop_drop,←h2,←lenL a,List.drop_left]
theorem Has.cut {t u:ByteArray} {p e:Nat} (h:Has t p u) (h1:p+u.size≤e) (h2:e≤t.size):Has (ssub t ((0:Nat):Int) (e:Int)) p u:=by
 refine ⟨by rw[hzH _ _ _ (by omega) h2];omega,?_⟩
 rw[ezI,List.drop_zero,Nat.sub_zero,List.drop_take]
 exact List.prefix_take_iff.2 ⟨h.2,by rw[lenL];omega⟩
theorem Has.sub {t u:ByteArray} {p:Nat} (h:Has t p u):ssub t (p:Int) ((p+u.size:Nat):Int)=u:=by
 apply szW
 obtain ⟨h1,r,h2⟩:=h
 rw[ezI,←h2,show p+u.size-p=u.data.toList.length by rw[lenL];omega,List.take_left]
theorem Has.at' {t u:ByteArray} {p i:Nat} (h:Has t p u) (hi:i<u.size):sat t ((p+i:Nat):Int)=sat u (i:Int):=by
 obtain ⟨h1,r,h2⟩:=h
 rw[uz4 t _ (by omega),uz4 u i hi]
 have h3:i<u.data.toList.length:=by rw[lenL];exact hi
 have e:(t.data.toList.drop p)[i]?=some u.data.toList[i]:=by rw[←h2,List.getElem?_append_left h3,List.getElem?_eq_getElem h3]
 rw[List.getElem?_drop,List.getElem?_eq_getElem (by rw[lenL];omega)] at e
 rw[Option.some.inj e]
theorem Has.at0 {t u:ByteArray} {p:Nat} (h:Has t p u) (hi:0<u.size):sat t (p:Int)=sat u 0:=h.at' (i:=0) hi
theorem Has.self (t:ByteArray):Has t 0 t:=⟨by omega,by rw[List.drop_zero];exact List.prefix_rfl⟩
theorem mz9 {a:Int} (h0:0≤a) (h1:a<256) (u:ByteArray):sat (scat (sof [a]) u) 0=a:=by
 have e:(0:Int)=((0:Nat):Int):=rfl
 rw[e,uz4 _ 0 (by rw[azu,azK];simp;omega)]
 simp only[Oz6]
 simp only[sof,List.map_cons,List.map_nil,List.cons_append,List.getElem_cons_zero]
 rw[UInt8.toNat_ofNat']
 omega
theorem vz4 (s:ByteArray):scat s (bs [])=s:=by unfold scat bs;apply ByteArray.ext;simp
theorem nat_or (a b i:Nat) (h:b<2^i):a*2^i|||b=a*2^i+b:=by
 rw[←Nat.shiftLeft_eq,Nat.shiftLeft_add_eq_or_of_lt h]
theorem or_8 (a b:Nat) (ha:a<4294967296) (hb:b<256):ior .i64 (ishl .i64 (a:Int) 8) (b:Int)=((256*a+b:Nat):Int):=by
 have e1:ishl .i64 (a:Int) 8=((a*256:Nat):Int):=by
  unfold ishl
  rw[show (2:Int)^ (min (8:Int).toNat IntKind.i64.bits)=256 from rfl,ezF (by omega) (by omega)]
  omega
 have e2: ∀n:Nat,n<18446744073709551616→(BitVec.ofInt IntKind.i64.bits (n:Int)).toNat=n:=fun n h=>by
  rw[BitVec.toNat_ofInt]
  have:((2^IntKind.i64.bits:Nat):Int)=18446744073709551616:=rfl
  rw[this,Int.emod_eq_of_lt (by omega) (by omega)]
  exact Int.toNat_natCast n
 rw[e1]
 unfold ior Czn
 simp only[]
 rw[BitVec.toNat_or,e2 _ (by omega),e2 _ (by omega),nat_or a b 8 hb,ezF (by omega) (by omega)]
 omega
def beL (l:List UInt8) (a:Nat):Nat:=l.foldl (fun a b=>256*a+b.toNat) a
def beV (t:ByteArray):Nat:=beL t.data.toList 0
theorem KzR: ∀ (l:List UInt8) (a i:Nat),a<256^i→beL l a<256^ (i+l.length)
 | [],a,i,h=>h
 |b::l,a,i,h=>by
  have:=UInt8.toNat_lt b
  show beL l (256*a+b.toNat)<_
  rw[List.length_cons,show i+(l.length+1)=i+1+l.length by omega]
  exact KzR l _ (i+1) (by rw[Nat.pow_succ];omega)
theorem QzG (l m:List UInt8) (a:Nat):beL (l++m) a=beL m (beL l a):=List.foldl_append
theorem be_le: ∀ (f n:Nat),n<256^f→beV (sof (leF f n).reverse)=n
 |0,n,h=>by obtain rfl:n=0:=by simpa using h
            rfl
 |f+1,n,h=>by
  unfold leF
  split
  ·rename_i h0;subst h0;rfl
  ·have ih:=be_le f (n/256) (Nat.div_lt_of_lt_mul (by rw[Nat.pow_succ] at h;omega))
   unfold beV at ih⊢
   rw[List.reverse_cons,pz3,Oz6,QzG,ih]
   show 256*(n/256)+(UInt8.ofNat ((n % 256:Nat):Int).toNat).toNat=n
   rw[Int.toNat_natCast,UInt8.toNat_ofNat']
   omega
theorem be_num (n:Nat) (h:n≤9223372036854775807):beV (numV n)=n:=be_le 8 n (by omega)
def rnV (t:ByteArray):Int×Bool:=if 4<t.size then (0,false) else if 1000000000<beV t∨numV (beV t)≠t then (0,false) else ((beV t:Int),true)
theorem HzK (n:Nat) (h:n≤1000000000) (h4:(numV n).size≤4):rnV (numV n)=((n:Int),true):=by
 unfold rnV
 rw[if_neg (by omega),be_num n (by omega),if_neg (fun hh=>hh.elim (fun h1=>by omega) (fun h1=>h1 rfl))]
theorem rn_0 (t:ByteArray):0≤(rnV t).1∧(rnV t).1≤1000000000:=by
 unfold rnV
 split
 ·exact ⟨by decide,by decide⟩
 ·split
  ·exact ⟨by decide,by decide⟩
  ·rename_i h;show 0≤(beV t:Int)∧(beV t:Int)≤1000000000;omega
theorem Mz3 {t:ByteArray} {i:Nat} (h:i<t.size): ∃b:UInt8,t.data.toList.drop i=b::t.data.toList.drop (i+1)∧sat t (i:Int)=(b.toNat:Int):=by
 have h':i<t.data.toList.length:=by rw[lenL];exact h
 exact ⟨_,List.drop_eq_getElem_cons h',uz4 t i h⟩
theorem Nz1 (t:ByteArray) (ht:t.size≤4): ∀ (m i a:Nat),i+m=t.size→a<256^i→gzV (t,((a:Int),((i:Int),())))=gzV (t,((beL (t.data.toList.drop i) a:Int),((t.size:Int),()))):=by
 intro m
 induction m with
 |zero=>intro i a hi ha;rw[List.drop_eq_nil_of_le (by rw[lenL];omega),show (i:Int)=(t.size:Int) by omega];rfl
 |succ m ih=>
  intro i a hi ha
  obtain ⟨b,e1,e2⟩:=Mz3 (t:=t) (i:=i) (by omega)
  have hb:=UInt8.toNat_lt b
  have h3:a<16777216:=Nat.lt_of_lt_of_le ha (Nat.pow_le_pow_right (by decide) (show i≤3 by omega))
  rw[wzL,bzW (by rw[azN];omega),aza,show nn 8=true from rfl,aza,bzI (by omega) (by rw[azN];omega),aza,e2,(hzB (by omega) (by omega)).1,or_8 a _ (by omega) (by omega),azq (by omega),
   ih (i+1) _ (by omega) (by rw[Nat.pow_succ];omega),e1]
  rfl
theorem Ozl (t:ByteArray):jzu (t,())=some (((rnV t).1,((rnV t).2,())),()):=by
 rw[Iz9]
 unfold rnV
 by_cases h:4<t.size
 ·rw[cze (by first|omega| (rw[azN];omega)),aza,if_pos h]
 ·rw[bzy (by first|omega| (rw[azN];omega)),azc,if_neg h]
  show gzV (t,(((0:Nat):Int),(((0:Nat):Int),())))=_
  have hlt:=KzR t.data.toList 0 0 (by decide)
  have hlt:beV t<4294967296:=Nat.lt_of_lt_of_le hlt (by rw[lenL,Nat.zero_add];exact Nat.pow_le_pow_right (by decide) (show t.size≤4 by omega))
  rw[Nz1 t (by omega) t.size 0 0 (by omega) (by decide),List.drop_zero,show beL t.data.toList 0=beV t from rfl,wzL,az7 (by rw[azN];omega),azc]
  by_cases h1:1000000000<beV t
  ·rw[cze (by omega),aza,if_pos (.inl h1)]
  ·rw[bzy (by omega),azc,tzS _ (by omega),azd]
   simp only[qzb]
   by_cases h2:numV (beV t)=t
   ·rw[decide_eq_true h2,Bool.not_true,azc,if_neg (fun hh=>hh.elim h1 (fun h3=>h3 h2))]
   ·rw[decide_eq_false h2,Bool.not_false,aza,if_pos (.inr h2)]
theorem NzL (t:ByteArray) (ht:t.size≤4): ∀ (m i a:Nat),i+m=t.size→a<256^i→gzv (t,((a:Int),((i:Int),())))=gzv (t,((beL (t.data.toList.drop i) a:Int),((t.size:Int),()))):=by
 intro m
 induction m with
 |zero=>intro i a hi ha;rw[List.drop_eq_nil_of_le (by rw[lenL];omega),show (i:Int)=(t.size:Int) by omega];rfl
 |succ m ih=>
  intro i a hi ha
  obtain ⟨b,e1,e2⟩:=Mz3 (t:=t) (i:=i) (by omega)
  have hb:=UInt8.toNat_lt b
  have h3:a<16777216:=Nat.lt_of_lt_of_le ha (Nat.pow_le_pow_right (by decide) (show i≤3 by omega))
  rw[wzZ,bzW (by rw[azN];omega),aza,bzI (by omega) (by rw[azN];omega),aza,e2,(hzB (by omega) (by omega)).1,fz9 (by omega) (by omega),azH (by omega) (by omega),azq (by omega),
   show (256:Int)*(a:Int)+(b.toNat:Int)=((256*a+b.toNat:Nat):Int) by omega,ih (i+1) _ (by omega) (by rw[Nat.pow_succ];omega),e1]
  rfl
theorem Nz6 (t:ByteArray):iz5 (t,())=some (((rnV t).1,((rnV t).2,())),()):=by
 rw[IzG]
 unfold rnV
 by_cases h:4<t.size
 ·rw[cze (by first|omega| (rw[azN];omega)),aza,if_pos h]
 ·rw[bzy (by first|omega| (rw[azN];omega)),azc,if_neg h]
  show gzv (t,(((0:Nat):Int),(((0:Nat):Int),())))=_
  have hlt:=KzR t.data.toList 0 0 (by decide)
  have hlt:beV t<4294967296:=Nat.lt_of_lt_of_le hlt (by rw[lenL,Nat.zero_add];exact Nat.pow_le_pow_right (by decide) (show t.size≤4 by omega))
  rw[NzL t (by omega) t.size 0 0 (by omega) (by decide),List.drop_zero,show beL t.data.toList 0=beV t from rfl,wzZ,az7 (by rw[azN];omega),azc,uza _ (by omega),azd]
  simp only[qzb]
  by_cases h2:numV (beV t)=t
  ·rw[decide_eq_true h2,Bool.not_true,azc]
   by_cases h1:1000000000<beV t
   ·rw[cze (by omega),aza,if_pos (.inl h1)]
   ·rw[bzy (by omega),azc,if_neg (fun hh=>hh.elim h1 (fun h3=>h3 h2))]
  ·rw[decide_eq_false h2,Bool.not_false,aza,if_pos (.inr h2)]
theorem Bz1 (n:Nat) (h0:n≠0) (h:n≤900):1≤(numV n).size∧(numV n).size≤2:=by
 rw[numV,azK,List.length_reverse]
 have e:(leF 8 n).length=(leF 7 (n/256)).length+1:=by rw[show (8:Nat)=7+1 from rfl,leF,if_neg h0,List.length_cons]
 have e2:(leF 7 (n/256)).length≤1:=by
  rw[show (7:Nat)=6+1 from rfl,leF]
  split
  ·simp
  ·rw[show n/256/256=0 by omega,Qz7];simp
 omega
theorem sub3 (t:ByteArray) (p:Nat) (ht:t.size≤1000000) (hp:p≤1000000):isub .i64 (isub .i64 (ssz t) (p:Int)) 1=(t.size:Int)- (p:Int)-1:=by
 rw[azN,bzi (x:=(t.size:Int)) (y:=(p:Int)) (by omega) (by omega),bzi (by omega) (by omega)]
theorem GzV (t:ByteArray) (p low:Nat) (hp:p<t.size) (ht:t.size≤1000000) (hl:(low:Int)≤sat t (p:Int)): ∃a n b,lzw (t,((p:Int),((low:Int),())))=some ((a,(n,(b,()))),())∧(b=true→ ∃A N:Nat,a=(A:Int)∧n=(N:Int)∧p<A∧A≤t.size):=by
 have hb:=fzS t (p:Int)
 obtain ⟨B,hB⟩:=Int.eq_ofNat_of_zero_le hb.1
 rw[zzl,bzI (by omega) (by rw[azN];omega),aza,(hzB hb.1 hb.2).1,hB,bzi (by omega) (by omega)]
 by_cases h:(B:Int)- (low:Int)≤55
 ·rw[gzB,decide_eq_true h,aza,azq (by omega)]
  exact ⟨_,_,_,rfl,fun _=>⟨p+1,B-low,rfl,by omega,by omega,by omega⟩⟩
 ·rw[gzB,decide_eq_false h,azc,bzi (by omega) (by omega),sub3 t p (by omega) (by omega)]
  by_cases h2:(B:Int)- (low:Int)-55≤(t.size:Int)- (p:Int)-1
  ·rw[bzy (by first|omega| (rw[azN];omega)),azc,azq (by omega),azH (by omega) (by omega),bzu (by omega) (by omega) (by rw[azN];omega),aza,Ozl,azd]
   have:=rn_0 (ssub t ((p+1:Nat):Int) (((p+1:Nat):Int)+((B:Int)- (low:Int)-55)))
   simp only[]
   exact ⟨_,_,_,rfl,fun _=>⟨p+1+(B-low-55),(rnV (ssub t ((p+1:Nat):Int) (((p+1:Nat):Int)+((B:Int)- (low:Int)-55)))).1.toNat,by omega,by omega,by omega,by omega⟩⟩
  ·rw[cze (by first|omega| (rw[azN];omega)),aza]
   exact ⟨_,_,_,rfl,fun h=>by cases h⟩
theorem Mz9 (t:ByteArray) (p low:Nat) (hp:p<t.size) (ht:t.size≤1000000) (hl:(low:Int)≤sat t (p:Int)): ∃a n b,lzo (t,((p:Int),((low:Int),())))=some ((a,(n,(b,()))),())∧(b=true→ ∃A N:Nat,a=(A:Int)∧n=(N:Int)∧p<A∧A≤t.size):=by
 have hb:=fzS t (p:Int)
 obtain ⟨B,hB⟩:=Int.eq_ofNat_of_zero_le hb.1
 rw[zzR,bzI (by omega) (by rw[azN];omega),aza,(hzB hb.1 hb.2).1,hB,bzi (by omega) (by omega)]
 by_cases h:(B:Int)- (low:Int)≤55
 ·rw[gzB,decide_eq_true h,aza,azq (by omega)]
  exact ⟨_,_,_,rfl,fun _=>⟨p+1,B-low,rfl,by omega,by omega,by omega⟩⟩
 ·rw[gzB,decide_eq_false h,azc,bzi (by omega) (by omega),sub3 t p (by omega) (by omega)]
  by_cases h3:(B:Int)- (low:Int)-55≤2
  ·rw[bzy (by omega),azc]
   by_cases h2:(B:Int)- (low:Int)-55≤(t.size:Int)- (p:Int)-1
   ·rw[bzy (by first|omega| (rw[azN];omega)),azc,azq (by omega),azH (by omega) (by omega),bzu (by omega) (by omega) (by rw[azN];omega),aza,Nz6,azd]
    have:=rn_0 (ssub t ((p+1:Nat):Int) (((p+1:Nat):Int)+((B:Int)- (low:Int)-55)))
    simp only[]
    cases (rnV (ssub t ((p+1:Nat):Int) (((p+1:Nat):Int)+((B:Int)- (low:Int)-55)))).2
    ·rw[azc]
     exact ⟨_,_,_,rfl,fun h=>by cases h⟩
    ·rw[aza]
     exact ⟨_,_,_,rfl,fun _=>⟨p+1+(B-low-55),(rnV (ssub t ((p+1:Nat):Int) (((p+1:Nat):Int)+((B:Int)- (low:Int)-55)))).1.toNat,by omega,by omega,by omega,by omega⟩⟩
   ·rw[cze (by first|omega| (rw[azN];omega)),aza]
    exact ⟨_,_,_,rfl,fun h=>by cases h⟩
  ·rw[cze (by omega),aza]
   exact ⟨_,_,_,rfl,fun h=>by cases h⟩
theorem qzn (low n:Nat) (hl:low≤192) (h:n≤55):lenV low n=scat (sof [((low+n:Nat):Int)]) (bs []):=by
 rw[lenV,if_pos h,vz4,azH (by omega) (by omega),show (low:Int)+(n:Int)=((low+n:Nat):Int) by omega,szC,Nat.mod_eq_of_lt (by omega)]
theorem Azr (low n:Nat) (hl:low≤192) (h: ¬n≤55):lenV low n=scat (sof [((low+55+(numV n).size % 9:Nat):Int)]) (numV n):=by
 have:=hzU n
 rw[lenV,if_neg h,azH (x:=(low:Int)) (y:=55) (by omega) (by omega),azN,azH (by omega) (by omega),show (low:Int)+55+((numV n).size:Int)=((low+55+(numV n).size % 9:Nat):Int) by omega,szC,Nat.mod_eq_of_lt (by omega)]
theorem lzC {t u:ByteArray} {p low n:Nat} (hl:low≤192) (hn:n≤900) (h:Has t p (scat (lenV low n) u)):p<t.size∧((low:Int)≤sat t (p:Int)∧sat t (p:Int)≤(low:Int)+57)∧0<(lenV low n).size:=by
 have h0:=h.fst
 by_cases h1:n≤55
 ·rw[qzn low n hl h1] at h0⊢
  have hs:=h0.1
  rw[azu,azK] at hs
  simp only[List.length_cons,List.length_nil] at hs
  rw[h0.at0 (by rw[azu,azK];simp only[List.length_cons];omega),mz9 (by omega) (by omega)]
  exact ⟨by omega,⟨by omega,by omega⟩,by rw[azu,azK];simp only[List.length_cons];omega⟩
 ·have h2:=Bz1 n (by omega) hn
  rw[Azr low n hl h1] at h0⊢
  have hs:=h0.1
  rw[azu,azK] at hs
  simp only[List.length_cons,List.length_nil] at hs
  rw[h0.at0 (by rw[azu,azK];simp;omega),mz9 (by omega) (by omega)]
  exact ⟨by omega,⟨by omega,by omega⟩,by rw[azu,azK];simp;omega⟩
theorem Kzw {t:ByteArray} {p low n:Nat} (ht:t.size≤1000000) (hl:low≤192) (hn:n≤900) (h:Has t p (lenV low n)):lzw (t,((p:Int),((low:Int),())))=some ((((p+(lenV low n).size:Nat):Int),((n:Int),(true,()))),()):=by
 have h0:=h
 have hf:=lzC (u:=bs []) hl hn (by rw[vz4];exact h)
 rw[zzl,bzI (by omega) (by rw[azN];omega),aza,(hzB (by omega) (by omega)).1,bzi (by omega) (by omega)]
 by_cases h1:n≤55
 ·have hz:(lenV low n).size=1:=by rw[qzn low n hl h1,azu,azK];rfl
  have e:sat t (p:Int)=((low+n:Nat):Int):=by
   rw[qzn low n hl h1] at h0
   rw[h0.at0 (by rw[azu,azK];simp only[List.length_cons];omega),mz9 (by omega) (by omega)]
  rw[e,gzB,decide_eq_true (by omega),aza,azq (by omega),hz,show ((low+n:Nat):Int)- (low:Int)=(n:Int) by omega]
 ·have h2:=Bz1 n (by omega) hn
  have hz:(lenV low n).size=1+(numV n).size:=by rw[Azr low n hl h1,azu,azK];rfl
  rw[Azr low n hl h1] at h0
  have hs:Has t (p+1) (numV n):=by
   have:=h0.snd
   rw[azK] at this
   exact this
  have hs1:=hs.1
  have e:sat t (p:Int)- (low:Int)-55=((numV n).size:Int):=by
   rw[h0.at0 (by rw[azu,azK];simp;omega),mz9 (by omega) (by omega)];omega
  rw[gzB,decide_eq_false (by omega),azc,bzi (by omega) (by omega),e,sub3 t p (by omega) (by omega),bzy (by first|omega| (rw[azN];omega)),azc,azq (by omega),azH (by omega) (by omega),bzu (by omega) (by omega) (by rw[azN];omega),aza,
   show ((p+1:Nat):Int)+((numV n).size:Int)=((p+1+(numV n).size:Nat):Int) by omega,Ozl,hs.sub,HzK n (by omega) (by omega),azd,hz,show p+(1+(numV n).size)=p+1+(numV n).size by omega]
theorem GzR {t:ByteArray} {p low n:Nat} (ht:t.size≤1000000) (hl:low≤192) (hn:n≤900) (h:Has t p (lenV low n)):lzo (t,((p:Int),((low:Int),())))=some ((((p+(lenV low n).size:Nat):Int),((n:Int),(true,()))),()):=by
 have h0:=h
 have hf:=lzC (u:=bs []) hl hn (by rw[vz4];exact h)
 rw[zzR,bzI (by omega) (by rw[azN];omega),aza,(hzB (by omega) (by omega)).1,bzi (by omega) (by omega)]
 by_cases h1:n≤55
 ·have hz:(lenV low n).size=1:=by rw[qzn low n hl h1,azu,azK];rfl
  have e:sat t (p:Int)=((low+n:Nat):Int):=by
   rw[qzn low n hl h1] at h0
   rw[h0.at0 (by rw[azu,azK];simp only[List.length_cons];omega),mz9 (by omega) (by omega)]
  rw[e,gzB,decide_eq_true (by omega),aza,azq (by omega),hz,show ((low+n:Nat):Int)- (low:Int)=(n:Int) by omega]
 ·have h2:=Bz1 n (by omega) hn
  have hz:(lenV low n).size=1+(numV n).size:=by rw[Azr low n hl h1,azu,azK];rfl
  rw[Azr low n hl h1] at h0
  have hs:Has t (p+1) (numV n):=by
   have:=h0.snd
   rw[azK] at this
   exact this
  have hs1:=hs.1
  have e:sat t (p:Int)- (low:Int)-55=((numV n).size:Int):=by
   rw[h0.at0 (by rw[azu,azK];simp;omega),mz9 (by omega) (by omega)];omega
  rw[gzB,decide_eq_false (by omega),azc,bzi (by omega) (by omega),e,bzy (by omega),azc,sub3 t p (by omega) (by omega),bzy (by first|omega| (rw[azN];omega)),azc,azq (by omega),azH (by omega) (by omega),bzu (by omega) (by omega) (by rw[azN];omega),aza,
   show ((p+1:Nat):Int)+((numV n).size:Int)=((p+1+(numV n).size:Nat):Int) by omega,Nz6,hs.sub,HzK n (by omega) (by omega),azd]
  simp only[aza]
  rw[cze (by omega),hz,show p+(1+(numV n).size)=p+1+(numV n).size by omega]
end Go.Proofs.YtdfbhjpmdjmdaaaGreatDoor
