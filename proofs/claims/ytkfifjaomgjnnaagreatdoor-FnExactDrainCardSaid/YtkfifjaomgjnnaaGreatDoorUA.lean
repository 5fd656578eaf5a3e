/- Updates read. Of no condition. -/
import Derived.Test.YtkfifjaomgjnnaaGreatDoorRA
set_option linter.unusedVariables false
set_option linter.unusedSimpArgs false
set_option maxRecDepth 100000
namespace Go.Proofs.YtkfifjaomgjnnaaGreatDoor
open Go.TV
abbrev Pos:=Nat×Bool
noncomputable def tk (s:ByteArray) (n:Nat) (x:Pos):ByteArray×Pos:=
 if x.2=true∨s.size<x.1+n then (bs [],(x.1,true)) else (ssub s (x.1:Int) ((x.1+n:Nat):Int),(x.1+n,false))
noncomputable def nu (s:ByteArray) (x:Pos):Int×Pos:=match readVar s (x.1:Int) with
 |some r=>if x.2=true then (0,(x.1,true)) else (r.1,(r.2,false))
 |none=>(0,(x.1,true))
noncomputable def hd (s:ByteArray) (x:Pos):tHead×Pos:=
 (((nu s x).1,((tk s 32 (nu s x).2).1,((tk s 32 (tk s 32 (nu s x).2).2).1,((tk s 32 (tk s 32 (tk s 32 (nu s x).2).2).2).1,())))),(tk s 32 (tk s 32 (tk s 32 (nu s x).2).2).2).2)
noncomputable def br (s:ByteArray) (x:Pos):List ByteArray×Pos:=([(tk s 32 x).1,(tk s 32 (tk s 32 x).2).1],(tk s 32 (tk s 32 x).2).2)
theorem tk_bad (s:ByteArray) (n p:Nat):tk s n (p,true)=(bs [],(p,true)):=by unfold tk;rw[if_pos (.inl rfl)]
theorem tk_ok {s:ByteArray} {n p:Nat} (h:p+n≤s.size):tk s n (p,false)=(ssub s (p:Int) ((p+n:Nat):Int),(p+n,false)):=by
 unfold tk;rw[if_neg fun h'=>h'.elim (fun h=>nomatch h) (fun h'=>by simp only at h';omega)]
theorem tk_end {s:ByteArray} {n p:Nat} (h:s.size<p+n):tk s n (p,false)=(bs [],(p,true)):=by unfold tk;rw[if_pos (.inr h)]
theorem nu_bad (s:ByteArray) (p:Nat):nu s (p,true)=(0,(p,true)):=by unfold nu;cases readVar s (p:Int)<;>simp
theorem nu_ok {s:ByteArray} {p:Nat} {r:Int×Nat} (h:readVar s (p:Int)=some r):nu s (p,false)=(r.1,(r.2,false)):=by unfold nu;simp [h]
theorem nu_none {s:ByteArray} {p:Nat} (h:readVar s (p:Int)=none):nu s (p,false)=(0,(p,true)):=by unfold nu;simp [h]
theorem tk_le {s:ByteArray} {n:Nat} {x:Pos} (h:x.1≤s.size):(tk s n x).2.1≤s.size:=by
 unfold tk
 split
 ·exact h
 ·rename_i hc
  show x.1+n≤s.size
  rcases Nat.lt_or_ge s.size (x.1+n) with h1|h1
  ·exact (hc (.inr h1)).elim
  ·exact h1
theorem nu_le {s:ByteArray} {x:Pos} (h:x.1≤s.size):(nu s x).2.1≤s.size:=by
 unfold nu
 split
 ·rename_i r hr
  obtain ⟨_,_,_,_,_,h5,_⟩:=readVar_out hr
  split
  ·exact h
  ·exact h5
 ·exact h
theorem hd_le {s:ByteArray} {x:Pos} (h:x.1≤s.size):(hd s x).2.1≤s.size:=tk_le (tk_le (tk_le (nu_le h)))
theorem br_le {s:ByteArray} {x:Pos} (h:x.1≤s.size):(br s x).2.1≤s.size:=tk_le (tk_le h)
theorem tk_size {s:ByteArray} {n:Nat} {x:Pos} (h:x.1≤s.size):(tk s n x).1.size≤n:=by
 unfold tk
 split
 ·rw[size_bs];exact Nat.zero_le _
 ·rename_i hc
  have h1:x.1+n≤s.size:=by
   rcases Nat.lt_or_ge s.size (x.1+n) with h1|h1
   ·exact (hc (.inr h1)).elim
   ·exact h1
  show (ssub s (x.1:Int) ((x.1+n:Nat):Int)).size≤n
  rw[ssub_size s x.1 (x.1+n) (by omega) h1];omega
noncomputable def tk' (n:Nat) (c:tL21Cur):ByteArray×tL21Cur:=
 if c.1.size<n then (bs [],(c.1,(true,()))) else (ssub c.1 0 (n:Int),(ssub c.1 (n:Int) (c.1.size:Int),c.2))
noncomputable def readHead (t:ByteArray):tHead×Bool:=match readVar t 0 with
 |none=>(zHead,false)
 |some r=>if t.size=r.2+96∧headOk (r.1,(ssub t (r.2:Int) ((r.2+32:Nat):Int),(ssub t ((r.2+32:Nat):Int) ((r.2+64:Nat):Int),(ssub t ((r.2+64:Nat):Int) (t.size:Int),()))))=true then ((r.1,(ssub t (r.2:Int) ((r.2+32:Nat):Int),(ssub t ((r.2+32:Nat):Int) ((r.2+64:Nat):Int),(ssub t ((r.2+64:Nat):Int) (t.size:Int),())))),true) else (zHead,false)
noncomputable def hd' (c:tL21Cur):tHead×tL21Cur:=match readVar c.1 0 with
 |none=>(zHead,(c.1,(true,())))
 |some r=>((readHead (tk' (r.2+96) c).1).1,bif (readHead (tk' (r.2+96) c).1).2 then (tk' (r.2+96) c).2 else ((tk' (r.2+96) c).2.1,(true,())))
noncomputable def br' (c:tL21Cur):List ByteArray×tL21Cur:=([(tk' 32 c).1,(tk' 32 (tk' 32 c).2).1],(tk' 32 (tk' 32 c).2).2)
theorem ssub_nil {s:ByteArray} {p q:Nat} (h:q≤p):ssub s (p:Int) (q:Int)=bs []:=by
 apply ba_ext
 rw[ssub_data,show q-p=0 by omega];rfl
theorem ssub_same (s:ByteArray):ssub s 0 (s.size:Int)=s:=by rw[←ssz_d];exact ssub_all s
theorem sat_ssub {s:ByteArray} {p q i:Nat} (h:p+i<q) (hq:q≤s.size):sat (ssub s (p:Int) (q:Int)) (i:Int)=sat s ((p+i:Nat):Int):=by
 have hz:=ssub_size s p q (by omega) hq
 rw[sat_at _ i (by omega),sat_at _ (p+i) (by omega)]
 simp only[ssub_data,List.getElem_take,List.getElem_drop]
theorem rvF_gt (s:ByteArray) (p:Nat): ∀ (f j:Nat) (n:Int) (r:Int×Nat),rvF s p f j n=some r→p+j<r.2
 |0,j,n,r,h=>by cases h
 |f+1,j,n,r,h=>by
  unfold rvF at h
  split at h
  ·split at h
   ·have:=rvF_gt s p f (j+1) _ r h;omega
   ·split at h
    ·cases h
    ·cases h;show p+j<p+j+1;omega
  ·cases h
def cutR (p q:Nat) (o:Option (Int×Nat)):Option (Int×Nat):=match o with
 |some r=>if r.2≤q then some (r.1,r.2-p) else none
 |none=>none
theorem rvF_cut (s:ByteArray) (p q:Nat) (hp:p≤q) (hq:q≤s.size): ∀ (f j:Nat) (n:Int),rvF (ssub s (p:Int) (q:Int)) 0 f j n=cutR p q (rvF s p f j n)
 |0,j,n=>rfl
 |f+1,j,n=>by
  have hz:=ssub_size s p q hp hq
  rw[rvF,rvF,Nat.zero_add,hz]
  by_cases hj:p+j<q
  ·rw[if_pos (show j<q-p by omega),if_pos (show p+j<s.size by omega),sat_ssub hj hq]
   by_cases hb:128≤sat s ((p+j:Nat):Int)
   ·rw[if_pos hb,if_pos hb];exact rvF_cut s p q hp hq f (j+1) _
   ·rw[if_neg hb,if_neg hb]
    split
    ·rfl
    ·show _=cutR p q (some _)
     unfold cutR
     simp only[if_pos (show p+j+1≤q by omega)]
     show some (_,j+1)=some (_,p+j+1-p)
     rw[show p+j+1-p=j+1 by omega]
  ·rw[if_neg (show¬j<q-p by omega)]
   cases hr:(if p+j<s.size then (if 128≤sat s ((p+j:Nat):Int) then rvF s p f (j+1) (n+sat s ((p+j:Nat):Int) % 128*128^j)
   else if (sat s ((p+j:Nat):Int)=0∧0<j)∨1000000000<n+sat s ((p+j:Nat):Int) % 128*128^j then none
   else some (n+sat s ((p+j:Nat):Int) % 128*128^j,p+j+1)) else none) with
   |none=>rfl
   |some r=>
    have:=rvF_gt s p (f+1) j n r (by rw[rvF];exact hr)
    unfold cutR
    simp only[if_neg (show¬r.2≤q by omega)]
theorem readVar_cut (s:ByteArray) (p q:Nat) (hp:p≤q) (hq:q≤s.size):readVar (ssub s (p:Int) (q:Int)) 0=cutR p q (readVar s (p:Int)):=by
 unfold readVar
 rw[if_pos ⟨by omega,by omega⟩,if_pos ⟨by omega,by omega⟩,Int.toNat_natCast]
 exact rvF_cut s p q hp hq 5 0 0
def Rel1 (s:ByteArray) (D:Prop) (x:Pos) (c:tL21Cur):Prop:=
 x.1≤s.size∧((x.2=false∧c=(ssub s (x.1:Int) (s.size:Int),(false,())))∨(c.2.1=true∧(x.2=true∨D)))
theorem tk'_bad {n:Nat} {c:tL21Cur} (h:c.2.1=true):(tk' n c).2.2.1=true:=by
 unfold tk';split
 ·rfl
 ·exact h
theorem hd'_bad {c:tL21Cur} (h:c.2.1=true):(hd' c).2.2.1=true:=by
 unfold hd'
 split
 ·rfl
 ·rename_i r _
  cases (readHead (tk' (r.2+96) c).1).2
  ·rfl
  ·exact tk'_bad h
theorem tk_sticky {s:ByteArray} {n:Nat} {x:Pos} (h:x.2=true):(tk s n x).2.2=true:=by
 obtain ⟨p,b⟩:=x;obtain rfl:b=true:=h;rw[tk_bad]
theorem nu_sticky {s:ByteArray} {x:Pos} (h:x.2=true):(nu s x).2.2=true:=by
 obtain ⟨p,b⟩:=x;obtain rfl:b=true:=h;rw[nu_bad]
theorem tk_rel {s:ByteArray} {D:Prop} {x:Pos} {c:tL21Cur} (n:Nat) (h:Rel1 s D x c):
 Rel1 s D (tk s n x).2 (tk' n c).2∧((tk' n c).2.2.1=false→c.2.1=false∧(tk' n c).1=(tk s n x).1∧x.2=false∧(tk s n x).2=(x.1+n,false)∧(tk s n x).1=ssub s (x.1:Int) ((x.1+n:Nat):Int)∧x.1+n≤s.size):=by
 obtain ⟨p,b⟩:=x
 obtain ⟨hp,⟨hb,rfl⟩| ⟨hc,hx⟩⟩:=h
 ·obtain rfl:b=false:=hb
  simp only at hp
  have hz:=ssub_size s p s.size hp (Nat.le_refl _)
  have e0:tk' n (ssub s (p:Int) (s.size:Int),(false,()))=if s.size-p<n then (bs [],(ssub s (p:Int) (s.size:Int),(true,()))) else (ssub (ssub s (p:Int) (s.size:Int)) 0 (n:Int),(ssub (ssub s (p:Int) (s.size:Int)) (n:Int) ((s.size-p:Nat):Int),(false,()))):=by
   unfold tk';simp only[hz]
  rw[e0]
  by_cases hn:s.size-p<n
  ·rw[if_pos hn,tk_end (by omega)]
   exact ⟨⟨hp, .inr ⟨rfl, .inl rfl⟩⟩,fun h=>nomatch h⟩
  ·rw[if_neg hn,tk_ok (by omega)]
   have e1:ssub (ssub s (p:Int) (s.size:Int)) 0 (n:Int)=ssub s (p:Int) ((p+n:Nat):Int):=ssub_sub s p s.size 0 n (by omega)
   have e2:ssub (ssub s (p:Int) (s.size:Int)) (n:Int) ((s.size-p:Nat):Int)=ssub s ((p+n:Nat):Int) (s.size:Int):=by
    have:=ssub_sub s p s.size n (s.size-p) (by omega)
    rw[show p+(s.size-p)=s.size by omega] at this
    exact this
   rw[e1,e2]
   exact ⟨⟨by show p+n≤s.size;omega, .inl ⟨rfl,rfl⟩⟩,fun _=>⟨rfl,rfl,rfl,rfl,rfl,by show p+n≤s.size;omega⟩⟩
 ·have hb:=tk'_bad (n:=n) hc
  exact ⟨⟨tk_le hp, .inr ⟨hb,hx.imp (fun h=>tk_sticky h) id⟩⟩,fun h=>by rw[hb] at h;cases h⟩
noncomputable def headT (h:tHead):ByteArray:=scat (scat (scat (varV h.1) h.2.1) h.2.2.1) h.2.2.2.1
theorem hd_rel {s:ByteArray} {D:Prop} {x:Pos} {c:tL21Cur} (h:Rel1 s D x c) (hD:headOk (hd s x).1=false→D):
 Rel1 s D (hd s x).2 (hd' c).2∧((hd' c).2.2.1=false→c.2.1=false∧(hd' c).1=(hd s x).1∧x.2=false∧ ∃q,(hd s x).2=(q,false)∧x.1≤q∧q≤s.size∧headT (hd s x).1=ssub s (x.1:Int) (q:Int)):=by
 obtain ⟨p,b⟩:=x
 obtain ⟨hp,⟨hb,rfl⟩| ⟨hc,hx⟩⟩:=h
 ·obtain rfl:b=false:=hb
  simp only at hp
  have hz:=ssub_size s p s.size hp (Nat.le_refl _)
  have hv:=readVar_cut s p s.size hp (Nat.le_refl _)
  cases hr:readVar s (p:Int) with
  |none=>
   rw[hr] at hv
   have hv:readVar (ssub s (p:Int) (s.size:Int)) 0=none:=hv
   have e:(hd s (p,false)).2=(p,true):=by simp only[hd,nu_none hr,tk_bad]
   have e':(hd' (ssub s (p:Int) (s.size:Int),(false,()))).2=(ssub s (p:Int) (s.size:Int),(true,())):=by unfold hd';simp only[hv]
   rw[e,e']
   exact ⟨⟨hp, .inr ⟨rfl, .inl rfl⟩⟩,fun h=>nomatch h⟩
  |some r=>
   obtain ⟨_,n0,n1,g1,g2,g3,g4⟩:=readVar_out hr
   rw[hr] at hv
   have hv:readVar (ssub s (p:Int) (s.size:Int)) 0=some (r.1,r.2-p):=by rw[hv];unfold cutR;simp only[if_pos g3]
   by_cases hn:s.size<r.2+96
   ·have e':(hd' (ssub s (p:Int) (s.size:Int),(false,()))).2.2.1=true:=by
     have e0:(tk' (r.2-p+96) (ssub s (p:Int) (s.size:Int),(false,()))).2.2.1=true:=by unfold tk';rw[if_pos (by simp only[hz];omega)]
     unfold hd'
     simp only[hv]
     cases (readHead (tk' (r.2-p+96) (ssub s (p:Int) (s.size:Int),(false,()))).1).2
     ·rfl
     ·exact e0
    have e:(hd s (p,false)).2.2=true:=by
     simp only[hd,nu_ok hr]
     by_cases k1:r.2+32≤s.size
     ·rw[tk_ok k1]
      by_cases k2:r.2+32+32≤s.size
      ·rw[tk_ok k2,tk_end (by omega)]
      ·rw[tk_end (by omega),tk_bad]
     ·rw[tk_end (by omega),tk_bad,tk_bad]
    exact ⟨⟨hd_le hp, .inr ⟨e', .inl e⟩⟩,fun h=>by rw[e'] at h;cases h⟩
   ·have e1:hd s (p,false)=((r.1,(ssub s (r.2:Int) ((r.2+32:Nat):Int),(ssub s ((r.2+32:Nat):Int) ((r.2+32+32:Nat):Int),(ssub s ((r.2+32+32:Nat):Int) ((r.2+32+32+32:Nat):Int),())))),(r.2+32+32+32,false)):=by
     simp only[hd,nu_ok hr]
     rw[tk_ok (by omega)]
     simp only[]
     rw[tk_ok (by omega)]
     simp only[]
     rw[tk_ok (by omega)]
    have e2:tk' (r.2-p+96) (ssub s (p:Int) (s.size:Int),(false,()))=(ssub s (p:Int) ((r.2+96:Nat):Int),(ssub s ((r.2+96:Nat):Int) (s.size:Int),(false,()))):=by
     unfold tk'
     rw[if_neg (by simp only[hz];omega)]
     simp only[hz]
     have a1:=ssub_sub s p s.size 0 (r.2-p+96) (by omega)
     have a2:=ssub_sub s p s.size (r.2-p+96) (s.size-p) (by omega)
     rw[show p+0=p by omega,show p+(r.2-p+96)=r.2+96 by omega] at a1
     rw[show p+(r.2-p+96)=r.2+96 by omega,show p+(s.size-p)=s.size by omega] at a2
     rw[a2]
     exact congrArg (fun y=>(y,(ssub s ((r.2+96:Nat):Int) (s.size:Int),(false,())))) a1
    have hz2:=ssub_size s p (r.2+96) (by omega) (by omega)
    have hv2:readVar (ssub s (p:Int) ((r.2+96:Nat):Int)) 0=some (r.1,r.2-p):=by
     rw[readVar_cut s p (r.2+96) (by omega) (by omega),hr];unfold cutR;simp only[if_pos (show r.2≤r.2+96 by omega)]
    have b1:=ssub_sub s p (r.2+96) (r.2-p) (r.2-p+32) (by omega)
    have b2:=ssub_sub s p (r.2+96) (r.2-p+32) (r.2-p+64) (by omega)
    have b3:=ssub_sub s p (r.2+96) (r.2-p+64) (r.2-p+96) (by omega)
    rw[show p+(r.2-p)=r.2 by omega,show p+(r.2-p+32)=r.2+32 by omega] at b1
    rw[show p+(r.2-p+32)=r.2+32 by omega,show p+(r.2-p+64)=r.2+32+32 by omega] at b2
    rw[show p+(r.2-p+64)=r.2+32+32 by omega,show p+(r.2-p+96)=r.2+32+32+32 by omega] at b3
    have e3:readHead (ssub s (p:Int) ((r.2+96:Nat):Int))=if headOk (hd s (p,false)).1=true then ((hd s (p,false)).1,true) else (zHead,false):=by
     unfold readHead
     simp only[hv2,hz2,show r.2+96-p=r.2-p+96 by omega,true_and]
     rw[b1,b2,b3,e1]
    have e4:hd' (ssub s (p:Int) (s.size:Int),(false,()))=if headOk (hd s (p,false)).1=true then ((hd s (p,false)).1,(ssub s ((r.2+96:Nat):Int) (s.size:Int),(false,()))) else (zHead,(ssub s ((r.2+96:Nat):Int) (s.size:Int),(true,()))):=by
     unfold hd'
     simp only[hv,e2,e3]
     split<;>rfl
    have ep:(hd s (p,false)).2=(r.2+96,false):=by rw[e1]
    have et:headT (hd s (p,false)).1=ssub s (p:Int) ((r.2+96:Nat):Int):=by
     rw[e1]
     unfold headT
     simp only[]
     rw[g4,←ssub_split s p r.2 (r.2+32) (by omega) (by omega),←ssub_split s p (r.2+32) (r.2+32+32) (by omega) (by omega),←ssub_split s p (r.2+32+32) (r.2+32+32+32) (by omega) (by omega)]
    rw[e4,ep]
    by_cases hk:headOk (hd s (p,false)).1=true
    ·rw[if_pos hk]
     exact ⟨⟨by show r.2+96≤s.size;omega, .inl ⟨rfl,rfl⟩⟩,fun _=>⟨rfl,rfl,rfl,r.2+96,rfl,by show p≤r.2+96;omega,by omega,et⟩⟩
    ·rw[if_neg hk]
     exact ⟨⟨by show r.2+96≤s.size;omega, .inr ⟨rfl, .inr (hD (by simpa using hk))⟩⟩,fun h=>nomatch h⟩
 ·have hb:=hd'_bad hc
  refine ⟨⟨hd_le hp, .inr ⟨hb,hx.imp (fun h=>?_) id⟩⟩,fun h=>by rw[hb] at h;cases h⟩
  exact tk_sticky (tk_sticky (tk_sticky (nu_sticky h)))
theorem br_rel {s:ByteArray} {D:Prop} {x:Pos} {c:tL21Cur} (h:Rel1 s D x c):
 Rel1 s D (br s x).2 (br' c).2∧((br' c).2.2.1=false→c.2.1=false∧(br' c).1=(br s x).1∧x.2=false∧(br s x).2=(x.1+64,false)∧x.1+64≤s.size∧(br s x).1=[ssub s (x.1:Int) ((x.1+32:Nat):Int),ssub s ((x.1+32:Nat):Int) ((x.1+64:Nat):Int)]):=by
 obtain ⟨r1,k1⟩:=tk_rel 32 h
 obtain ⟨r2,k2⟩:=tk_rel 32 r1
 refine ⟨r2,fun hg=>?_⟩
 obtain ⟨g1,g2,g3,g4,g5,g6⟩:=k2 hg
 obtain ⟨f1,f2,f3,f4,f5,f6⟩:=k1 g1
 rw[f4] at g4 g5 g6
 refine ⟨f1,?_,f3,?_,by simp only at g6;omega,?_⟩
 ·show [_,_]=[_,_]
  rw[f2,g2]
 ·show (tk s 32 (tk s 32 x).2).2=_
  rw[f4,g4]
 ·show [_,_]=[_,_]
  rw[f4,f5,g5]
noncomputable def scS (s:ByteArray) (x:Pos):tScanner:=(s,((x.1:Int),(x.2,())))
theorem iTake_l (s:ByteArray) (n:Nat) (x:Pos) (hs:s.size≤1099511627776) (hn:n≤1000) (hx:x.1≤s.size):iScanner_take_d (scS s x,((n:Int),()))=some (((tk s n x).1,()),(scS s (tk s n x).2,())):=by
 obtain ⟨p,b⟩:=x
 simp only at hx
 rw[iScanner_take_b]
 simp only[scS]
 cases b
 ·rw[cnd_f,ssz_d,isub_64 (by omega) (by omega)]
  by_cases h:p+n≤s.size
  ·rw[igt_f (by omega),cnd_f,iadd_64 (x:=(p:Int)) (by omega) (by omega),isub_64 (x:=(p:Int)+(n:Int)) (by omega) (by omega),inb2_t (by omega) (by omega) (by omega),cnd_t,tk_ok h]
   simp only[]
   rw[show (p:Int)+(n:Int)- (n:Int)=(p:Int) by omega,show (p:Int)+(n:Int)=((p+n:Nat):Int) by omega]
  ·rw[igt_t (by omega),cnd_t,tk_end (by omega)]
 ·rw[cnd_t,tk_bad]
theorem iNumber_l (s:ByteArray) (x:Pos) (hs:s.size≤1099511627776):iScanner_number_d (scS s x,())=some (((nu s x).1,()),(scS s (nu s x).2,())):=by
 obtain ⟨p,b⟩:=x
 rw[iScanner_number_b]
 simp only[scS]
 rw[iReadVar_l s _ hs,bnd_s]
 cases b
 ·cases h:readVar s (p:Int) with
  |none=>rw[nu_none h];rfl
  |some r=>rw[nu_ok h];rfl
 ·rw[cnd_t,nu_bad]
theorem iHead_l (s:ByteArray) (x:Pos) (hs:s.size≤1099511627776) (hx:x.1≤s.size):iScanner_head_d (scS s x,())=some (((hd s x).1,()),(scS s (hd s x).2,())):=by
 have h1:=nu_le (x:=x) hx
 have h2:=tk_le (n:=32) h1
 have h3:=tk_le (n:=32) h2
 have e2:iScanner_take_d (scS s (nu s x).2,((32:Int),()))=_:=iTake_l s 32 _ hs (by decide) h1
 have e3:iScanner_take_d (scS s (tk s 32 (nu s x).2).2,((32:Int),()))=_:=iTake_l s 32 _ hs (by decide) h2
 have e4:iScanner_take_d (scS s (tk s 32 (tk s 32 (nu s x).2).2).2,((32:Int),()))=_:=iTake_l s 32 _ hs (by decide) h3
 rw[iScanner_head_b,iNumber_l s x hs,bnd_s,e2,bnd_s,e3,bnd_s,e4,bnd_s]
 rfl
theorem iBranch_l (s:ByteArray) (x:Pos) (hs:s.size≤1099511627776) (hx:x.1≤s.size):iScanner_branch_d (scS s x,())=some (((br s x).1,()),(scS s (br s x).2,())):=by
 have h1:=tk_le (n:=32) hx
 have e2:iScanner_take_d (scS s x,((32:Int),()))=_:=iTake_l s 32 _ hs (by decide) hx
 have e3:iScanner_take_d (scS s (tk s 32 x).2,((32:Int),()))=_:=iTake_l s 32 _ hs (by decide) h1
 rw[iScanner_branch_b,e2,bnd_s,e3,bnd_s]
 rfl
theorem iDone_l (s:ByteArray) (x:Pos):iScanner_done_d (scS s x,())=some ((!x.2&&decide (x.1=s.size),()),(scS s x,())):=by
 obtain ⟨p,b⟩:=x
 rw[iScanner_done_b]
 simp only[scS]
 cases b
 ·rw[ieq_d,ssz_d]
  have:((p:Int)=(s.size:Int))↔p=s.size:=by omega
  simp only[this,bnot,Bool.not_false,cnd_t,Bool.true_and]
 ·rfl
theorem sTake_l (c:tL21Cur) (n:Nat) (hs:c.1.size≤1099511627776):sL21Take_d (c,((n:Int),()))=some (((tk' n c).1,()),((tk' n c).2,())):=by
 rw[sL21Take_b,ssz_d]
 unfold tk'
 by_cases h:c.1.size<n
 ·rw[igt_t (by omega),cnd_t,if_pos h]
 ·rw[igt_f (by omega),cnd_f,inb2_t (by omega) (by omega) (by omega),cnd_t,inb2_t (by omega) (by omega) (by omega),cnd_t,if_neg h]
theorem tk'_le {n:Nat} {c:tL21Cur}:(tk' n c).2.1.size≤c.1.size:=by
 unfold tk'
 split
 ·exact Nat.le_refl _
 ·rename_i h
  show (ssub c.1 (n:Int) (c.1.size:Int)).size≤_
  rw[ssub_size _ n _ (by omega) (Nat.le_refl _)];omega
theorem tk'_size {n:Nat} {c:tL21Cur}:(tk' n c).1.size≤c.1.size:=by
 unfold tk'
 split
 ·rw[size_bs];exact Nat.zero_le _
 ·rename_i h
  have:=ssub_size c.1 0 n (by omega) (by omega)
  show (ssub c.1 0 (n:Int)).size≤_
  exact Nat.le_trans (Nat.le_of_eq this) (by omega)
theorem hd'_le {c:tL21Cur}:(hd' c).2.1.size≤c.1.size:=by
 unfold hd'
 split
 ·exact Nat.le_refl _
 ·rename_i r _
  cases (readHead (tk' (r.2+96) c).1).2
  ·exact tk'_le
  ·exact tk'_le
theorem br'_le {c:tL21Cur}:(br' c).2.1.size≤c.1.size:=Nat.le_trans tk'_le tk'_le
theorem sReadHead_l (t:ByteArray) (hs:t.size≤1099511627776):sReadHead_d (t,())=some (((readHead t).1,((readHead t).2,())),()):=by
 rw[sReadHead_b,show (0:Int)=((0:Nat):Int) from rfl,sReadVar_l t _ hs,bnd_s]
 unfold readHead
 rw[show ((0:Nat):Int)=0 from rfl]
 cases h:readVar t 0 with
 |none=>rfl
 |some r=>
  obtain ⟨_,n0,n1,g1,g2,g3,g4⟩:=readVar_out h
  simp only[rvT]
  rw[show bnot true=false from rfl,cnd_f,ssz_d,iadd_64 (y:=96) (by omega) (by omega),ine_d]
  by_cases hz:t.size=r.2+96
  ·rw[decide_eq_true (show (t.size:Int)=(r.2:Int)+96 by omega)]
   simp only[Bool.not_true,cnd_f]
   rw[iadd_64 (y:=32) (by omega) (by omega),iadd_64 (y:=64) (by omega) (by omega),inb2_t (by omega) (by omega) (by omega),cnd_t,inb2_t (by omega) (by omega) (by omega),cnd_t,inb2_t (by omega) (by omega) (by omega),cnd_t,sHeadOk_l,bnd_s]
   rw[show (r.2:Int)+32=((r.2+32:Nat):Int) by omega,show (r.2:Int)+64=((r.2+64:Nat):Int) by omega]
   simp only[hz,true_and]
   generalize (r.1,(ssub t (r.2:Int) ((r.2+32:Nat):Int),(ssub t ((r.2+32:Nat):Int) ((r.2+64:Nat):Int),(ssub t ((r.2+64:Nat):Int) ((r.2+96:Nat):Int),()))))=h0
   cases headOk h0<;>rfl
  ·rw[decide_eq_false (show¬(t.size:Int)=(r.2:Int)+96 by omega),if_neg fun k=>hz k.1];rfl
theorem sHead_l (c:tL21Cur) (hs:c.1.size≤1099511627776):sL21Head_d (c,())=some (((hd' c).1,()),((hd' c).2,())):=by
 rw[sL21Head_b,sReadVar_l c.1 _ hs,bnd_s]
 unfold hd'
 cases h:readVar c.1 0 with
 |none=>rfl
 |some r=>
  obtain ⟨_,n0,n1,g1,g2,g3,g4⟩:=readVar_out h
  simp only[rvT]
  rw[show bnot true=false from rfl,cnd_f,iadd_64 (y:=96) (by omega) (by omega),show (r.2:Int)+96=((r.2+96:Nat):Int) by omega,sTake_l c _ hs,bnd_s]
  simp only[]
  rw[sReadHead_l _ (Nat.le_trans tk'_size hs),bnd_s]
  simp only[]
  cases (readHead (tk' (r.2+96) c).1).2<;>rfl
theorem sBranch_l (c:tL21Cur) (hs:c.1.size≤1099511627776):sL21Branch_d (c,())=some (((br' c).1,()),((br' c).2,())):=by
 have e1:sL21Take_d (c,((32:Int),()))=_:=sTake_l c 32 hs
 have e2:sL21Take_d ((tk' 32 c).2,((32:Int),()))=_:=sTake_l (tk' 32 c).2 32 (Nat.le_trans tk'_le hs)
 rw[sL21Branch_b,e1,bnd_s,e2,bnd_s]
 rfl
theorem sUnsealed_l (t:ByteArray) (ht:t.size≤1099511):sUnsealed_d (t,())=some (if 4≤t.size∧t.size≤20004∧sumV (ssub t 0 ((t.size-4:Nat):Int))=ssub t ((t.size-4:Nat):Int) (t.size:Int) then (ssub t 0 ((t.size-4:Nat):Int),(true,())) else zL21Cur,()):=by
 rw[sUnsealed_b,ssz_d,isub_64 (by omega) (by omega)]
 by_cases h1:4≤t.size
 ·rw[ilt_f (by omega),cnd_f,show (t.size:Int)-4=((t.size-4:Nat):Int) by omega]
  by_cases h2:t.size≤20004
  ·have hz:(ssub t 0 ((t.size-4:Nat):Int)).size=t.size-4:=by
    have:=ssub_size t 0 (t.size-4) (by omega) (by omega);simpa using this
   rw[igt_f (by omega),cnd_f,inb2_t (by omega) (by omega) (by omega),cnd_t,inb2_t (by omega) (by omega) (by omega),cnd_t,sSumOf_l _ (by rw[hz];omega),bnd_s,sFour_l,bnd_s,sne_d]
   have e:four (crc 4294967295 (ssub t 0 ((t.size-4:Nat):Int)))=sumV (ssub t 0 ((t.size-4:Nat):Int)):=rfl
   simp only[e]
   by_cases h3:sumV (ssub t 0 ((t.size-4:Nat):Int))=ssub t ((t.size-4:Nat):Int) (t.size:Int)
   ·rw[decide_eq_true h3.symm,if_pos ⟨h1,h2,h3⟩];rfl
   ·rw[decide_eq_false fun h=>h3 h.symm,if_neg fun h=>h3 h.2.2];rfl
  ·rw[igt_t (by omega),cnd_t,if_neg fun h=>h2 h.2.1]
 ·rw[ilt_t (by omega),cnd_t,if_neg fun h=>h1 h.1]
end Go.Proofs.YtkfifjaomgjnnaaGreatDoor
