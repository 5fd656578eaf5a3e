/- What a trie proves. Of no condition. -/
import Derived.Test.YtdfbhjpmdjmdaaaGreatDoorTL
set_option linter.unusedVariables false
set_option linter.unusedSimpArgs false
set_option maxRecDepth 100000
namespace Go.Proofs.YtdfbhjpmdjmdaaaGreatDoor
open Go.TV
theorem Hzi: ∀ (l:List ByteArray) (a:ByteArray),(l.foldl scat a).size=a.size+(l.map ByteArray.size).sum
 | [],a=>by simp
 |y::l,a=>by rw[List.foldl_cons,Hzi l,azu,List.map_cons,List.sum_cons];omega
theorem Kz9: ∀ (l:List Nat),(∀y∈l,1≤y)→l.length≤l.sum
 | [],_=>by simp
 |y::l,h=>by
  have h1:=Kz9 l (fun z hz=>h z (by simp [hz]))
  have h2:=h y (by simp)
  rw[List.length_cons,List.sum_cons];omega
theorem Pzw {B:Nat}: ∀ (l:List Nat),(∀y∈l,y≤B)→l.sum≤B*l.length
 | [],_=>by simp
 |y::l,h=>by
  have h1:=Pzw (B:=B) l (fun z hz=>h z (by simp [hz]))
  have h2:=h y (by simp)
  rw[List.length_cons,List.sum_cons,Nat.mul_add,Nat.mul_one];omega
theorem MzG: ∀ (l:List Nat) (y:Nat),(∀z∈l,1≤z)→y∈l→y+l.length≤l.sum+1
 | [],y,_,h=>by cases h
 |z::l,y,h,hy=>by
  have h2:=h z (by simp)
  rw[List.length_cons,List.sum_cons]
  rcases List.mem_cons.1 hy with rfl|hy
  ·have h1:=Kz9 l (fun z hz=>h z (by simp [hz]))
   omega
  ·have h1:=MzG l y (fun z hz=>h z (by simp [hz])) hy
   omega
noncomputable def fzI (d:Nat) (k:List ItemT):Nat:=(k.map fun y=>(azt d y).size).sum
theorem xzR (d:Nat) (k:List ItemT):(azt (d+1) (.mk true (bs []) k)).size=(lenV ((192:Nat):Int) (fzI d k)).size+fzI d k:=by
 show (scat (lenV ((192:Nat):Int) ((k.map (azt d)).foldl scat (bs [])).size) ((k.map (azt d)).foldl scat (bs []))).size=_
 have e:((k.map (azt d)).foldl scat (bs [])).size=fzI d k:=by
  rw[Hzi,List.map_map,fzI]
  show 0+_=_
  rw[Nat.zero_add]
  rfl
 rw[azu,e]
theorem jzk (d:Nat) (s:ByteArray) (k:List ItemT):(azt (d+1) (.mk false s k)).size≤s.size+9:=by
 show (if s.size=1∧sat s 0<128 then s else scat (lenV 128 s.size) s).size≤_
 have:=dzQ 128 s.size
 split
 ·omega
 ·rw[azu];omega
theorem OzV (d:Nat) (s:ByteArray) (hs:s.size=32):(azt (d+1) (.mk false s [])).size=33:=by
 show (if s.size=1∧sat s 0<128 then s else scat (lenV ((128:Nat):Int) s.size) s).size=_
 rw[if_neg (fun hh=>by omega),azu,qzn 128 s.size (by omega) (by omega),azu,azK,hs]
 rfl
theorem qzS {e:Nat} {k:List ItemT} (h1:k.length≤17) (h2: ∀y∈k,fitV e y=true):fitV (e+1) (.mk true (bs []) k)=true:=by
 show (decide (bs []=bs [])&&(decide (k.length≤17)&&k.all (fitV e)))=true
 rw[decide_eq_true rfl,decide_eq_true h1,List.all_eq_true.2 h2];rfl
theorem nzn {e:Nat} {s:ByteArray} (h:s.size≤600):fitV e (.mk false s [])=true:=by
 have e':fitV e (.mk false s [])=(decide (s.size≤600)&&decide (([]:List ItemT).length=0)):=by cases e<;>rfl
 rw[e',decide_eq_true h];rfl
theorem vz1: ∀ (d:Nat) (x:ItemT),fitV d x=true→ ∀e,d≤e→fitV e x=true
 |d, .mk false s k,h,e,he=>by
  obtain ⟨h1,rfl⟩:=hzy h
  exact nzn h1
 |d, .mk true s k,h,e,he=>by
  obtain ⟨rfl,h1,d',rfl,h2⟩:=ezR h
  obtain ⟨e',rfl⟩: ∃e',e=e'+1:=⟨e-1,by omega⟩
  exact qzS h1 fun y hy=>vz1 d' y (h2 y hy) e' (by omega)
theorem wzg (d:Nat) (s:ByteArray) (k:List ItemT):azt (d+1) (.mk false s k)=if s.size=1∧sat s 0<128 then s else scat (lenV 128 s.size) s:=by
 unfold azt
 rw[cond_false]
theorem JzY (d:Nat) (s:ByteArray) (k:List ItemT):azt (d+1) (.mk true s k)=scat (lenV 192 ((k.map (azt d)).foldl scat (bs [])).size) ((k.map (azt d)).foldl scat (bs [])):=by
 conv=>lhs;unfold azt
 rw[cond_true]
theorem Jza (d:Nat): ∀ (x:ItemT),fitV d x=true→ ∀e,d<e→azt e x=azt (d+1) x:=by
 induction d with
 |zero=>
  intro x h e he
  obtain ⟨l,s,k⟩:=x
  obtain ⟨e',rfl⟩: ∃e',e=e'+1:=⟨e-1,by omega⟩
  cases l with
  |false=>rw[wzg,wzg]
  |true=>
   obtain ⟨_,_,d',hd,_⟩:=ezR h
   omega
 |succ d ih=>
  intro x h e he
  obtain ⟨l,s,k⟩:=x
  obtain ⟨e',rfl⟩: ∃e',e=e'+1:=⟨e-1,by omega⟩
  cases l with
  |false=>rw[wzg,wzg]
  |true=>
   obtain ⟨_,_,d',hd,h2⟩:=ezR h
   obtain rfl:d=d':=by omega
   have e1:k.map (azt e')=k.map (azt (d+1)):=List.map_congr_left fun y hy=>ih y (h2 y hy) e' (by omega)
   rw[JzY,JzY,e1]
structure RT (x:ItemT) (c:Nat):Prop where
 l:x.l=true
 f4:fitV 4 x=true
 hi:(azt 5 x).size≤900
 e3:(azt 5 x).size≤31→fitV 3 x=true
 b2:c=2→(azt 5 x).size≤31→fitV 2 x=true
 lo:c≠1→18≤(azt 5 x).size
 l1:c=1→fitV 1 x=true
theorem RT.text {x:ItemT} {c:Nat} (h:RT x c):bzn x=(azt 5 x,true):=by
 unfold bzn
 rw[if_pos ⟨h.f4,h.hi⟩]
theorem RT.ref {x:ItemT} {c:Nat} (h:RT x c):refV x=if (azt 5 x).size≤31 then x else .mk false (azo (azt 5 x)) []:=by
 unfold refV
 rw[h.text]
 by_cases h1:(azt 5 x).size≤31
 ·rw[if_pos h1,if_pos ⟨rfl,h1⟩]
 ·rw[if_neg h1,if_neg (fun hh=>h1 hh.2)]
theorem RT.refN {x:ItemT} {c:Nat} (h:RT x c):fitV 3 (refV x)=true∧(azt 4 (refV x)).size≤33∧((azt 4 (refV x)).size≤31→refV x=x∧(azt 5 x).size=(azt 4 (refV x)).size)∧(c≠1→18≤(azt 4 (refV x)).size):=by
 rw[h.ref]
 by_cases h1:(azt 5 x).size≤31
 ·rw[if_pos h1]
  have e:=Jza 3 x (h.e3 h1) 5 (by omega)
  rw[←e]
  exact ⟨h.e3 h1,by omega,fun _=>⟨rfl,rfl⟩,h.lo⟩
 ·rw[if_neg h1]
  have:=OzV 3 _ (azD (azt 5 x))
  rw[this]
  exact ⟨nzn (by rw[azD];omega),by omega,fun hh=>by omega,fun _=>by omega⟩
theorem xzu (d:Nat):(azt (d+1) (.mk false (bs []) [])).size=1:=by
 show (if (bs []).size=1∧sat (bs []) 0<128 then bs [] else scat (lenV ((128:Nat):Int) (bs []).size) (bs [])).size=1
 rw[if_neg (fun hh=>by cases hh.1),azu,qzn 128 _ (by omega) (by decide),azu,azK]
 rfl
theorem zI_R:bzn (.mk false (bs []) [])=(azt 5 (.mk false (bs []) []),true):=by
 unfold bzn
 rw[if_pos ⟨nzn (by decide),by rw[xzu];omega⟩]
theorem Jz4:refV (.mk false (bs []) [])= .mk false (bs []) []:=by
 unfold refV
 rw[zI_R,if_pos ⟨rfl,by rw[xzu];omega⟩]
theorem ozP (F:Nat→ItemT): ∀m k,(kzZ F k m).length=m+1
 |0,k=>rfl
 |m+1,k=>by rw[kzZ,List.length_cons,ozP F m (k+1)]
theorem Ezp (F:Nat→ItemT): ∀m k,∀y∈kzZ F k m,y= .mk false (bs []) []∨ ∃i,y=F i
 |0,k,y,h=>by simp only[kzZ,List.mem_singleton] at h;exact .inl h
 |m+1,k,y,h=>by
  rcases List.mem_cons.1 h with rfl|h
  ·exact .inr ⟨k,rfl⟩
  ·exact Ezp F m (k+1) y h
theorem BzU (F:Nat→ItemT): ∀m k i,i<m→(kzZ F k m).getD i zI=F (k+i)
 |0,k,i,h=>by omega
 |m+1,k,0,h=>rfl
 |m+1,k,i+1,h=>by
  rw[kzZ,List.getD_cons_succ,BzU F m (k+1) i (by omega),show k+1+i=k+(i+1) by omega]
theorem RT.fork {ks:List ItemT} (hl:ks.length=17) (hk: ∀y∈ks,y= .mk false (bs []) []∨ ∃x c,RT x c∧y=refV x):RT (.mk true (bs []) ks) 2:=by
 have h1: ∀z∈ks.map (fun y=>(azt 4 y).size),1≤z:=fun z hz=>by
  obtain ⟨y,_,rfl⟩:=List.mem_map.1 hz
  exact ozU 3 y
 have h33: ∀z∈ks.map (fun y=>(azt 4 y).size),z≤33:=fun z hz=>by
  obtain ⟨y,hy,rfl⟩:=List.mem_map.1 hz
  rcases hk y hy with rfl| ⟨x,c,hx,rfl⟩
  ·rw[xzu];omega
  ·exact hx.refN.2.1
 have hf: ∀y∈ks,fitV 3 y=true:=fun y hy=>by
  rcases hk y hy with rfl| ⟨x,c,hx,rfl⟩
  ·exact nzn (by decide)
  ·exact hx.refN.1
 have n1:=Kz9 _ h1
 have n2:=Pzw _ h33
 rw[List.length_map,hl] at n1 n2
 have e:(azt 5 (.mk true (bs []) ks)).size=(lenV ((192:Nat):Int) (fzI 4 ks)).size+fzI 4 ks:=xzR 4 ks
 have hp:=vzY 192 (fzI 4 ks) (by omega)
 have hz:=dzQ ((192:Nat):Int) (fzI 4 ks)
 have hN:fzI 4 ks=(ks.map fun y=>(azt 4 y).size).sum:=rfl
 have b2:(azt 5 (.mk true (bs []) ks)).size≤31→fitV 2 (.mk true (bs []) ks)=true:=fun h31=>by
  refine qzS (by omega) fun y hy=>?_
  rcases hk y hy with rfl| ⟨x,c,hx,rfl⟩
  ·exact nzn (by decide)
  ·obtain ⟨r1,r2,r3,r4⟩:=hx.refN
   have n3:=MzG _ (azt 4 (refV x)).size h1 (List.mem_map.2 ⟨refV x,hy,rfl⟩)
   rw[List.length_map,hl] at n3
   have h4:(azt 4 (refV x)).size≤31:=by omega
   by_cases hc:c=1
   ·rw[(r3 h4).1];exact hx.l1 hc
   ·have:=r4 hc;omega
 exact ⟨rfl,qzS (by omega) hf,by omega,fun h=>vz1 2 _ (b2 h) 3 (by omega),fun _=>b2,fun _=>by omega,fun h=>by cases h⟩
theorem RT.way {p:ByteArray} {x:ItemT} (hp:p.size≤9) (h:RT x 2):RT (.mk true (bs []) [.mk false p [],refV x]) 3:=by
 have e:(azt 5 (.mk true (bs []) [.mk false p [],refV x])).size=(lenV ((192:Nat):Int) (fzI 4 [.mk false p [],refV x])).size+fzI 4 [.mk false p [],refV x]:=xzR 4 _
 have e2:fzI 4 [.mk false p [],refV x]=(azt 4 (.mk false p [])).size+(azt 4 (refV x)).size:=by simp [fzI]
 have h1:1≤(azt 4 (.mk false p [])).size:=ozU 3 (.mk false p [])
 have h2:(azt 4 (.mk false p [])).size≤p.size+9:=jzk 3 p []
 obtain ⟨r1,r2,r3,r4⟩:=h.refN
 have r4:=r4 (by omega)
 have hp:=vzY 192 (fzI 4 [.mk false p [],refV x]) (by omega)
 have hz:=dzQ ((192:Nat):Int) (fzI 4 [.mk false p [],refV x])
 have fk: ∀d,fitV d (refV x)=true→ ∀y∈[ItemT.mk false p [],refV x],fitV d y=true:=fun d hd y hy=>by
  rcases List.mem_cons.1 hy with rfl|hy
  ·exact nzn (by omega)
  ·rw[List.mem_singleton.1 hy];exact hd
 refine ⟨rfl,qzS (by simp) (fk 3 r1),by omega,fun h31=>?_,fun h=>(by cases h),fun _=>by omega,fun h=>by cases h⟩
 obtain ⟨q1,q2⟩:=r3 (by omega)
 exact qzS (by simp) (fk 2 (by rw[q1];exact h.b2 rfl (by omega)))
theorem RT.leaf {p v:ByteArray} (hp:p.size≤9) (hv:v.size≤60):RT (.mk true (bs []) [.mk false p [], .mk false v []]) 1:=by
 have e:(azt 5 (.mk true (bs []) [.mk false p [], .mk false v []])).size=(lenV ((192:Nat):Int) (fzI 4 [.mk false p [], .mk false v []])).size+fzI 4 [.mk false p [], .mk false v []]:=xzR 4 _
 have e2:fzI 4 [.mk false p [], .mk false v []]=(azt 4 (.mk false p [])).size+(azt 4 (.mk false v [])).size:=by simp [fzI]
 have h2:(azt 4 (.mk false p [])).size≤p.size+9:=jzk 3 p []
 have h3:(azt 4 (.mk false v [])).size≤v.size+9:=jzk 3 v []
 have hz:=dzQ ((192:Nat):Int) (fzI 4 [.mk false p [], .mk false v []])
 have f1:fitV 1 (.mk true (bs []) [.mk false p [], .mk false v []])=true:=qzS (by simp) fun y hy=>by
  rcases List.mem_cons.1 hy with rfl|hy
  ·exact nzn (by omega)
  ·rw[List.mem_singleton.1 hy];exact nzn (by omega)
 exact ⟨rfl,vz1 1 _ f1 4 (by omega),by omega,fun _=>vz1 1 _ f1 3 (by omega),fun h=>(by cases h),fun h=>absurd rfl h,fun _=>f1⟩
theorem Gzi: ∀ (k:Nat) (a b:List Int),k≤comV a b→comV (a.drop k) (b.drop k)=comV a b-k
 |0,a,b,_=>rfl
 |k+1,[],b,h=>by simp [comV] at h
 |k+1,x::a,[],h=>by simp [comV] at h
 |k+1,x::a,y::b,h=>by
  unfold comV at h
  split at h
  ·rename_i e
   rw[List.drop_succ_cons,List.drop_succ_cons,Gzi k a b (by omega)]
   simp only[comV,if_pos e]
   omega
  ·omega
theorem Kzc: ∀ (l:List azh) (f:List Int) (n m:Nat),shV l f n m=m∨ ∃p∈l,shV l f n m=comV f ((nibV p.1).drop n)
 | [],f,n,m=> .inl rfl
 |p::l,f,n,m=>by
  show shV l f n (min m (comV f ((nibV p.1).drop n)))=m∨ ∃q∈p::l,shV l f n (min m (comV f ((nibV p.1).drop n)))=comV f ((nibV q.1).drop n)
  rcases Kzc l f n (min m (comV f ((nibV p.1).drop n))) with h| ⟨q,hq,h⟩
  ·by_cases hm:m≤comV f ((nibV p.1).drop n)
   ·left;rw[h];omega
   ·right;exact ⟨p,by simp,by rw[h];omega⟩
  ·right;exact ⟨q,by simp [hq],h⟩
theorem GzJ {p q:azh} {r:List azh} {n:Nat} (h:GoodP (p::q::r) n):shV (q::r) ((nibV p.1).drop (n+shV (q::r) ((nibV p.1).drop n) n (8-n))) (n+shV (q::r) ((nibV p.1).drop n) n (8-n)) (8- (n+shV (q::r) ((nibV p.1).drop n) n (8-n)))=0:=by
 have hlt:=h.step.lt
 rcases Kzc (q::r) ((nibV p.1).drop n) n (8-n) with h1| ⟨p0,hp0,h1⟩
 ·omega
 ·have h2:=wzj (q::r) ((nibV p.1).drop (n+shV (q::r) ((nibV p.1).drop n) n (8-n))) (n+shV (q::r) ((nibV p.1).drop n) n (8-n)) (8- (n+shV (q::r) ((nibV p.1).drop n) n (8-n))) p0 hp0
  have h3:=Gzi (shV (q::r) ((nibV p.1).drop n) n (8-n)) ((nibV p.1).drop n) ((nibV p0.1).drop n) (by omega)
  rw[List.drop_drop,List.drop_drop] at h3
  omega
theorem xzU (f n:Nat) (p q:azh) (r:List azh):azF (f+1) n (p::q::r)=if 0<shV (q::r) ((nibV p.1).drop n) n (8-n) then
 .mk true (bs []) [.mk false (preV (((nibV p.1).drop n).take (shV (q::r) ((nibV p.1).drop n) n (8-n))) false) [],refV (azF f (n+shV (q::r) ((nibV p.1).drop n) n (8-n)) (p::q::r))]
 else .mk true (bs []) (kzZ (fun k=>refV (azF f (n+1) ((p::q::r).filter fun p=>az8 p n (k:Int)))) 0 16):=rfl
theorem gzD: ∀ (f n:Nat) (l:List azh),8-n<f→GoodP l n→(∀p∈l,p.2.1.size≤60)→l≠ []→ ∃c,RT (azF f n l) c∧ ∀p q r,l=p::q::r→shV (q::r) ((nibV p.1).drop n) n (8-n)=0→c=2:=by
 intro f
 induction f with
 |zero=>intro n l h;omega
 |succ f IH=>
  intro n l hf h hv hl
  match l,h,hv,hl with
  | [p],h,hv,_=>
    have hn:=h.nib (p:=p) (by simp)
    have hz:=CzM ((nibV p.1).drop n) true
    rw[List.length_drop] at hz
    exact ⟨1,RT.leaf (by omega) (hv p (by simp)),fun p q r e=>by cases e⟩
  |p::q::r,h,hv,_=>
   have hlt:=h.lt
   have hn:=h.nib (p:=p) (by simp)
   rw[xzU]
   by_cases hs:0<shV (q::r) ((nibV p.1).drop n) n (8-n)
   ·have hst:=h.step
    obtain ⟨c,hc,h2⟩:=IH (n+shV (q::r) ((nibV p.1).drop n) n (8-n)) (p::q::r) (by omega) hst hv (by simp)
    have:=h2 p q r rfl (GzJ h)
    subst this
    have hz:=CzM (((nibV p.1).drop n).take (shV (q::r) ((nibV p.1).drop n) n (8-n))) false
    rw[List.length_take,List.length_drop] at hz
    rw[if_pos hs]
    exact ⟨3,RT.way (by omega) hc,fun p' q' r' e hs'=>by cases e;omega⟩
   ·rw[if_neg hs]
    refine ⟨2,RT.fork (by rw[ozP]) fun y hy=>?_,fun _ _ _ _ _=>rfl⟩
    rcases Ezp _ _ _ y hy with rfl| ⟨i,rfl⟩
    ·exact .inl rfl
    ·by_cases he:((p::q::r).filter fun p=>az8 p n (i:Int))=[]
     ·left
      rw[he]
      obtain ⟨f',rfl⟩: ∃f',f=f'+1:=⟨f-1,by omega⟩
      exact Jz4
     ·obtain ⟨c,hc,_⟩:=IH (n+1) _ (by omega) (h.half hlt (i:Int)) (fun p hp=>hv p (List.mem_filter.1 hp).1) he
      exact .inr ⟨_,c,hc,rfl⟩
theorem sofL (l:List Int):(sof l).data.toList=l.map fun n=>UInt8.ofNat n.toNat:=by simp [sof]
theorem Oz9 (c:Int) (l:List Int):ssub (sof (c::l)) ((1:Nat):Int) ((sof (c::l)).size:Int)=sof l:=by
 apply szW
 rw[ezI,sofL,sofL,azK,List.map_cons,List.drop_succ_cons,List.drop_zero,List.length_cons,Nat.add_sub_cancel]
 exact List.take_of_length_le (by rw[List.length_map];exact Nat.le_refl _)
theorem GzL {c:Int} (h0:0≤c) (h1:c<256) (l:List Int):sat (sof (c::l)) 0=c:=by
 have:=mz9 h0 h1 (sof l)
 rw[←pz3] at this
 exact this
theorem HzL {c:Int} (h0:0≤c) (h1:c<256) (l:List Int):nibV (sof (c::l))=c/16::c % 16::nibV (sof l):=by
 rw[szZ (by rw[azK];simp),Oz9,GzL h0 h1]
theorem AzL: ∀ (m:Nat) (l:List Int),l.length=2*m→(∀x∈l,0≤x∧x≤15)→nibV (sof (ozC l))=l
 |0,l,hl,h=>by
  obtain rfl:=List.length_eq_zero_iff.1 (by simpa using hl)
  rfl
 |m+1,[],hl,h=>by simp at hl
 |m+1,[a],hl,h=>by simp at hl;omega
 |m+1,a::b::r,hl,h=>by
  have ha:=h a (by simp)
  have hb:=h b (by simp)
  have e:azx .u8 (16*a+b)=16*a+b:=by unfold azx;rw[xzi];omega
  rw[ozC,e,HzL (by omega) (by omega),AzL m r (by simp only[List.length_cons] at hl;omega) (fun x hx=>h x (by simp [hx])),show (16*a+b)/16=a by omega,show (16*a+b) % 16=b by omega]
theorem yzp (l:List Int) (leaf:Bool) (h: ∀x∈l,0≤x∧x≤15) (hl:l.length≤64):rpV (preV l leaf)=(l,(leaf,true)):=by
 obtain ⟨x,hx,hxl,hxd⟩: ∃x:Int,(x=0∨x=32)∧(bif leaf then (32:Int) else 0)=x∧leaf=decide (32≤x):=by
  cases leaf
  ·exact ⟨0, .inl rfl,rfl,rfl⟩
  ·exact ⟨32, .inr rfl,rfl,rfl⟩
 have fin: ∀ (c:Int) (t:List Int),preL l leaf=c::t→0≤c→c<64→decide (32≤c)=leaf→(c/16::c % 16::nibV (sof t)).drop (if c/16 % 2=1 then 1 else 2)=l→rpV (preV l leaf)=(l,(leaf,true)):=by
  intro c t e h0 h1 h2 h3
  have e':preV l leaf=sof (c::t):=by rw[preV,e]
  have hs:sat (sof (c::t)) 0=c:=GzL h0 (by omega) t
  unfold rpV
  rw[e',hs,if_neg (fun hh=>hh.elim (fun h=>by rw[azK] at h;simp at h) (fun h=>by omega)),HzL h0 (by omega),h3,h2]
  unfold rpW
  rw[if_pos ⟨hl,e'⟩]
 cases l with
 |nil=>
  refine fin x [] (by rw[preL,hxl];unfold azx;rw[xzi];rcases hx with rfl|rfl<;>rfl) (by omega) (by omega) hxd.symm ?_
  rcases hx with rfl|rfl<;>rfl
 |cons a r=>
  have ha:=h a (by simp)
  by_cases ho:(a::r).length % 2=1
  ·refine fin (x+16+a) (ozC r) (by rw[preL,if_pos ho,hxl];unfold azx;rw[xzi];congr 1;omega) (by omega) (by omega) (by rw[hxd];simp only[decide_eq_decide];omega) ?_
   rw[AzL (r.length/2) r (by simp only[List.length_cons] at ho;omega) (fun y hy=>h y (by simp [hy])),if_pos (by omega),show (x+16+a) % 16=a by omega]
   rfl
  ·refine fin x (ozC (a::r)) (by rw[preL,if_neg ho,hxl];unfold azx;rw[xzi];rcases hx with rfl|rfl<;>rfl) (by omega) (by omega) hxd.symm ?_
   rw[AzL ((a::r).length/2) (a::r) (by omega) h,if_neg (by omega)]
   rfl
def gotV (l:List azh) (k:ByteArray):ByteArray×Bool:=match l.find? (fun p=>decide (p.1=k)) with
 |some p=>(p.2.1,true)
 |none=>(bs [],false)
theorem HzQ {l:List azh} {k:ByteArray} (h: ∀p∈l,p.1≠k):gotV l k=(bs [],false):=by
 unfold gotV
 rw[List.find?_eq_none.2 fun p hp=>by simpa using h p hp]
theorem Azw {k:ByteArray} (P:azh→Bool): ∀ (l:List azh),(∀p∈l,p.1=k→P p=true)→gotV (l.filter P) k=gotV l k
 | [],_=>rfl
 |p::l,h=>by
  have ih:=Azw P l (fun q hq=>h q (by simp [hq]))
  unfold gotV at ih⊢
  by_cases hp:p.1=k
  ·rw[List.filter_cons,if_pos (h p (by simp) hp),List.find?_cons_of_pos (by simpa using hp),List.find?_cons_of_pos (by simpa using hp)]
  ·rw[List.find?_cons_of_neg (by simpa using hp)]
   by_cases hP:P p=true
   ·rw[List.filter_cons,if_pos hP,List.find?_cons_of_neg (by simpa using hp)];exact ih
   ·rw[List.filter_cons,if_neg hP];exact ih
theorem BzG {α:Type} {l:List α} {n:Nat} (h:l.drop n=[]) (hn:n≤l.length):n=l.length:=by
 have:=congrArg List.length h
 rw[List.length_drop,List.length_nil] at this
 omega
theorem Gzc {pf:List ByteArray} {u:Nat} {t:ByteArray} {r:List ByteArray} {x:ItemT} (h:pf.drop u=t::r) (hx:bzn x=(t,true)):bzt pf u (azo t)=(x,0):=by
 have hu:u<pf.length:=by
  have:=congrArg List.length h
  rw[List.length_drop,List.length_cons] at this
  omega
 have e:pf.getD u (bs [])=t:=by
  rw[List.drop_eq_getElem_cons hu] at h
  rw[List.getD_eq_getElem?_getD,List.getElem?_eq_getElem hu]
  exact (List.cons.inj h).1
 unfold bzt
 rw[if_pos hu,e,rzg hx,if_pos ⟨rfl,rfl⟩]
theorem MzD {pf:List ByteArray} {F:Nat} {left:List Int} {u n':Nat} {x y:ItemT} {c f n:Nat} {l:List azh} {rest:List ByteArray} {R:ByteArray× (Bool× (Nat×Nat))} (hy:RT (azF f n l) c) (e:az9 x left=(refV (azF f n l),(n',0))) (hd:pf.drop u=ownV f n l++rest) (hu:u≤pf.length)
 (go: ∀u,u≤pf.length→pf.drop u=rest→runV pf F (left.drop n') u (azF f n l)=R):runV pf (F+1) left u x=R:=by
 unfold runV
 rw[e]
 simp only[]
 rw[hy.ref]
 unfold ownV at hd
 rw[hy.text] at hd
 by_cases h1:(azt 5 (azF f n l)).size≤31
 ·rw[if_neg (by show¬31<(azt 5 (azF f n l)).size;omega),List.nil_append] at hd
  rw[if_pos h1,if_pos hy.l]
  exact go u hu hd
 ·rw[if_pos (by show 31<(azt 5 (azF f n l)).size;omega)] at hd
  rw[if_neg h1,if_neg (show¬(ItemT.mk false (azo (azt 5 (azF f n l))) []).l=true from fun h=>by cases h)]
  have hd':pf.drop u=azt 5 (azF f n l)::rest:=hd
  have hl:=Gzc hd' hy.text
  rw[show (ItemT.mk false (azo (azt 5 (azF f n l))) []).s=azo (azt 5 (azF f n l)) from rfl,azD,if_pos rfl,hl,if_pos rfl]
  have hu':u<pf.length:=by
   have:=congrArg List.length hd'
   rw[List.length_drop,List.length_cons] at this
   omega
  refine go (u+1) (by omega) ?_
  rw[←List.drop_drop,hd']
  rfl
theorem Mzy {a b:List Int} {n k:Nat} (h:a.take n=b.take n) (h2:a.drop n=b.drop n):a=b:=by rw[←List.take_append_drop n a,←List.take_append_drop n b,h,h2]
theorem Oza {a b:List Int} (h:a.length=b.length) (h2: ¬comV a b<a.length):a=b:=by
 have h3:=uz2 a b
 have:=kzU a b a.length (by omega)
 rw[List.take_of_length_le (Nat.le_refl _),List.take_of_length_le (by omega)] at this
 exact this
theorem szH: ∀a:List Int,comV a a=a.length
 | []=>rfl
 |x::a=>by simp [comV,szH a]
theorem qzR: ∀ (k:Nat) (a b:List Int),k≤a.length→(comV (a.take k) b<k↔comV a b<k)
 |0,a,b,_=>by simp
 |k+1,[],b,h=>by simp at h
 |k+1,x::a,[],h=>by simp [comV]
 |k+1,x::a,y::b,h=>by
  rw[List.take_succ_cons]
  simp only[comV]
  have ih:=qzR k a b (by simp at h;omega)
  split
  ·omega
  ·omega
theorem Kzu: ∀ (f n:Nat) (l:List azh) (F u:Nat) (pf:List ByteArray) (k:ByteArray),8-n<f→f≤F→GoodP l n→(∀p∈l,p.2.1.size≤60)→l≠ []→k.size=4→(∀p∈l,(nibV p.1).take n=(nibV k).take n)→u≤pf.length→pf.drop u=czg f n l (nibV k)→
 runV pf F ((nibV k).drop n) u (azF f n l)=((gotV l k).1,((gotV l k).2,(0,pf.length))):=by
 intro f
 induction f with
 |zero=>intro n l F u pf k h;omega
 |succ f IH=>
  intro n l F u pf k hf hF h hv hl hk ha hu hd
  have hkl:(nibV k).length=8:=by rw[czN,hk]
  obtain ⟨F,rfl⟩: ∃F',F=F'+1:=⟨F-1,by omega⟩
  match l,h,hv,hl,ha,hd with
  | [p],h,hv,_,ha,hd=>
    have hp:=h.nib (p:=p) (by simp)
    have hnd: ∀x∈(nibV p.1).drop n,0≤x∧x≤15:=fun x hx=>dz0 p.1 x (List.mem_of_mem_drop hx)
    have hle:=h.le
    have hul:=BzG (show pf.drop u=[] from hd) hu
    have hr:rpV (preV ((nibV p.1).drop n) true)=((nibV p.1).drop n,(true,true)):=yzp _ _ hnd (by rw[List.length_drop];omega)
    have hx:az9 (azF (f+1) n [p]) ((nibV k).drop n)=if comV ((nibV p.1).drop n) ((nibV k).drop n)<((nibV p.1).drop n).length∨(true=true∧comV ((nibV p.1).drop n) ((nibV k).drop n)<((nibV k).drop n).length) then (azF (f+1) n [p],(comV ((nibV p.1).drop n) ((nibV k).drop n),1)) else (.mk false p.2.1 [],(comV ((nibV p.1).drop n) ((nibV k).drop n),2)):=by
     unfold az9
     simp only[azF,ItemT.l,ItemT.k,ItemT.s,List.getD_cons_zero,List.getD_cons_succ,hr]
     rfl
    unfold runV
    rw[hx]
    by_cases hc:comV ((nibV p.1).drop n) ((nibV k).drop n)<((nibV p.1).drop n).length
    ·rw[if_pos (.inl hc)]
     have:gotV [p] k=(bs [],false):=HzQ fun q hq e=>by
      rw[List.mem_singleton.1 hq] at e
      rw[e,szH] at hc
      omega
     rw[this,←hul]
     rfl
    ·have he:=Oza (by rw[List.length_drop,List.length_drop,hp,hkl]) hc
     have hpk:p.1=k:=HzG (Mzy (n:=n) (k:=0) (ha p (by simp)) he)
     rw[if_neg (fun hh=>hh.elim hc (fun h2=>by
      have:=h2.2
      rw[List.length_drop,hkl] at this
      rw[List.length_drop,hp] at hc
      omega))]
     have:gotV [p] k=(p.2.1,true):=by unfold gotV;rw[List.find?_cons_of_pos (by simpa using hpk)]
     rw[this,←hul]
     rfl
  |p::q::r,h,hv,_,ha,hd=>
   have hlt:=h.lt
   have hp:=h.nib (p:=p) (by simp)
   have hst:=h.step
   have hsa:=GzJ h
   have hcomk:=wzj (q::r) ((nibV p.1).drop n) n (8-n)
   have hshle:=rzJ (q::r) ((nibV p.1).drop n) n (8-n)
   have hT:=xzU f n p q r
   unfold czg at hd
   generalize hsh:shV (q::r) ((nibV p.1).drop n) n (8-n)=sh at*
   by_cases hs:0<sh
   ·have hlt2:=hst.lt
    rw[if_neg (by omega)] at hd
    rw[if_pos hs] at hT
    obtain ⟨c,hc,_⟩:=gzD f (n+sh) (p::q::r) (by omega) hst hv (by simp)
    have hnd: ∀x∈((nibV p.1).drop n).take sh,0≤x∧x≤15:=fun x hx=>dz0 p.1 x (List.mem_of_mem_drop (List.mem_of_mem_take hx))
    have hpl:(((nibV p.1).drop n).take sh).length=sh:=by rw[List.length_take,List.length_drop,hp];omega
    have hr:rpV (preV (((nibV p.1).drop n).take sh) false)=(((nibV p.1).drop n).take sh,(false,true)):=yzp _ _ hnd (by omega)
    have hx:az9 (azF (f+1) n (p::q::r)) ((nibV k).drop n)=if comV (((nibV p.1).drop n).take sh) ((nibV k).drop n)<sh then (azF (f+1) n (p::q::r),(comV (((nibV p.1).drop n).take sh) ((nibV k).drop n),1)) else (refV (azF f (n+sh) (p::q::r)),(comV (((nibV p.1).drop n).take sh) ((nibV k).drop n),0)):=by
     rw[hT]
     unfold az9
     simp only[ItemT.l,ItemT.k,ItemT.s,List.getD_cons_zero,List.getD_cons_succ,hr,hpl]
     by_cases hcs:comV (((nibV p.1).drop n).take sh) ((nibV k).drop n)<sh
     ·rw[if_pos hcs,if_neg (by decide),if_neg (by simp),if_neg (by simp),if_neg (by decide),if_pos (.inl hcs)]
     ·rw[if_neg hcs,if_neg (by decide),if_neg (by simp),if_neg (by simp),if_neg (by decide),if_neg (fun hh=>hh.elim hcs (fun h=>by cases h.1)),if_neg (by decide)]
    have hiff:=qzR sh ((nibV p.1).drop n) ((nibV k).drop n) (by rw[List.length_drop,hp];omega)
    by_cases hck:comV ((nibV p.1).drop n) ((nibV k).drop n)<sh
    ·rw[rz7,if_pos hck] at hd
     rw[if_pos (hiff.2 hck)] at hx
     have hul:=BzG hd hu
     have:gotV (p::q::r) k=(bs [],false):=HzQ fun p' hp' e=>by
      rcases List.mem_cons.1 hp' with rfl|hp'
      ·rw[e,szH,List.length_drop,hkl] at hck;omega
      ·have:=hcomk p' hp'
       rw[e] at this
       omega
     unfold runV
     rw[hx,this,←hul]
     rfl
    ·rw[rz7,if_neg hck] at hd
     rw[if_neg (fun hh=>hck (hiff.1 hh))] at hx
     have hcl:=(uz2 (((nibV p.1).drop n).take sh) ((nibV k).drop n)).1
     have hcn:comV (((nibV p.1).drop n).take sh) ((nibV k).drop n)=sh:=by
      have: ¬comV (((nibV p.1).drop n).take sh) ((nibV k).drop n)<sh:=fun hh=>hck (hiff.1 hh)
      omega
     rw[hcn] at hx
     refine MzD (n:=n+sh) (y:=zI) hc hx hd hu fun u' hu' hd'=>?_
     rw[List.drop_drop]
     refine IH (n+sh) (p::q::r) F u' pf k (by omega) (by omega) hst hv (by simp) hk (fun p' hp'=>?_) hu' hd'
     rw[take_add,take_add,ha p' hp']
     congr 1
     have e1:((nibV p.1).drop n).take sh=((nibV k).drop n).take sh:=kzU _ _ _ (by omega)
     rcases List.mem_cons.1 hp' with rfl|hp''
     ·exact e1
     ·rw[←e1];exact (kzU _ _ _ (hcomk p' hp'')).symm
   ·obtain rfl:sh=0:=by omega
    rw[if_pos rfl] at hd
    rw[if_neg hs] at hT
    obtain ⟨a,ha1,ha2⟩: ∃a:Nat,(nibV k).getD n 0=(a:Int)∧a<16:=by
     have h1:n<(nibV k).length:=by omega
     have h2:=dz0 k (nibV k)[n] (List.getElem_mem h1)
     rw[List.getD_eq_getElem?_getD,List.getElem?_eq_getElem h1,Option.getD_some]
     exact ⟨(nibV k)[n].toNat,by omega,by omega⟩
    have hkd:(nibV k).drop n=(a:Int)::(nibV k).drop (n+1):=by
     have h1:n<(nibV k).length:=by omega
     rw[List.drop_eq_getElem_cons h1]
     rw[List.getD_eq_getElem?_getD,List.getElem?_eq_getElem h1,Option.getD_some] at ha1
     rw[ha1]
    rw[ha1] at hd
    have hgot:gotV ((p::q::r).filter fun p=>az8 p n (a:Int)) k=gotV (p::q::r) k:=Azw _ _ fun p' _ e=>by
     unfold az8
     rw[e,ha1];simp
    have hkid:((kzZ (fun k=>refV (azF f (n+1) ((p::q::r).filter fun p=>az8 p n (k:Int)))) 0 16).getD a zI)=refV (azF f (n+1) ((p::q::r).filter fun p=>az8 p n (a:Int))):=by
     rw[BzU _ _ _ _ ha2,Nat.zero_add]
    have hx:az9 (azF (f+1) n (p::q::r)) ((nibV k).drop n)=if (refV (azF f (n+1) ((p::q::r).filter fun p=>az8 p n (a:Int)))).l=false∧(refV (azF f (n+1) ((p::q::r).filter fun p=>az8 p n (a:Int)))).s=bs [] then (refV (azF f (n+1) ((p::q::r).filter fun p=>az8 p n (a:Int))),(1,1)) else (refV (azF f (n+1) ((p::q::r).filter fun p=>az8 p n (a:Int))),(1,0)):=by
     rw[hT,hkd]
     unfold az9
     simp only[ItemT.l,ItemT.k,ozP,Int.toNat_natCast,hkid]
     rfl
    by_cases he:((p::q::r).filter fun p=>az8 p n (a:Int))=[]
    ·obtain ⟨f',rfl⟩: ∃f',f=f'+1:=⟨f-1,by omega⟩
     rw[he] at hx hd hgot
     have e0:refV (azF (f'+1) (n+1) [])= .mk false (bs []) []:=Jz4
     rw[e0,if_pos ⟨rfl,rfl⟩] at hx
     have e1:ownV (f'+1) (n+1) []=[]:=by
      unfold ownV
      rw[show azF (f'+1) (n+1) []= .mk false (bs []) [] from rfl,zI_R,if_neg (by show¬31<(azt 5 (.mk false (bs []) [])).size;rw[xzu];omega)]
     rw[e1] at hd
     have hul:=BzG (show pf.drop u=[] from hd) hu
     rw[←hgot]
     unfold runV
     rw[hx,←hul]
     rfl
    ·have hG:=h.half hlt (a:Int)
     obtain ⟨c,hc,_⟩:=gzD f (n+1) _ (by omega) hG (fun p hp=>hv p (List.mem_filter.1 hp).1) he
     have hne: ¬((refV (azF f (n+1) ((p::q::r).filter fun p=>az8 p n (a:Int)))).l=false∧(refV (azF f (n+1) ((p::q::r).filter fun p=>az8 p n (a:Int)))).s=bs []):=by
      rw[hc.ref]
      split
      ·rw[hc.l];exact fun hh=>by cases hh.1
      ·intro hh
       have h1:=hh.2
       have h2:=azD (azt 5 (azF f (n+1) ((p::q::r).filter fun p=>az8 p n (a:Int))))
       rw[show (ItemT.mk false (azo (azt 5 (azF f (n+1) ((p::q::r).filter fun p=>az8 p n (a:Int))))) []).s=azo (azt 5 (azF f (n+1) ((p::q::r).filter fun p=>az8 p n (a:Int)))) from rfl] at h1
       rw[h1] at h2
       cases h2
     rw[if_neg hne] at hx
     rw[←hgot]
     refine MzD (n:=n+1) (y:=zI) hc hx hd hu fun u' hu' hd'=>?_
     rw[List.drop_drop]
     refine IH (n+1) _ F u' pf k (by omega) (by omega) hG (fun p hp=>hv p (List.mem_filter.1 hp).1) he hk (fun p' hp'=>?_) hu' hd'
     obtain ⟨m1,m2⟩:=List.mem_filter.1 hp'
     have m3:=of_decide_eq_true m2
     have l1:=h.nib m1
     rw[take_add,take_add,ha p' m1,hkd]
     congr 1
     rw[List.drop_eq_getElem_cons (by omega:n<(nibV p'.1).length)]
     rw[List.getD_eq_getElem?_getD,List.getElem?_eq_getElem (by omega:n<(nibV p'.1).length),Option.getD_some] at m3
     simp only[List.take_succ_cons,List.take_zero,m3]
theorem rz6 (l:List azh) (k:ByteArray) (h:GoodP l 0) (hv: ∀p∈l,p.2.1.size≤60) (hk:k.size=4):verV (azo (bzn (azF 9 0 l)).1) k (izu l k)=((gotV l k).1,((gotV l k).2,(0,()))):=by
 have hlen:=lz0 9 0 l (nibV k)
 unfold verV
 rw[if_neg (fun hh=>hh ⟨azD _,hk,by simp [izu],by simp only[izu,List.length_cons];omega⟩)]
 by_cases hl:l=[]
 ·subst hl
  have e:bzn (azF 9 0 [])=(azt 5 (.mk false (bs []) []),true):=zI_R
  have hx:bzt (izu [] k) 0 (azo (bzn (azF 9 0 [])).1)=(azF 9 0 [],0):=by
   have:=Gzc (pf:=izu [] k) (u:=0) (t:=(bzn (azF 9 0 [])).1) (r:=czg 9 0 [] (nibV k)) (x:=azF 9 0 []) rfl (by rw[e])
   exact this
  rw[hx,if_pos rfl,if_pos ⟨rfl,rfl⟩]
  rfl
 ·obtain ⟨c,hc,_⟩:=gzD 9 0 l (by omega) h hv hl
  have hx:bzt (izu l k) 0 (azo (bzn (azF 9 0 l)).1)=(azF 9 0 l,0):=by
   refine Gzc (pf:=izu l k) (u:=0) (t:=(bzn (azF 9 0 l)).1) (r:=czg 9 0 l (nibV k)) (x:=azF 9 0 l) rfl ?_
   rw[hc.text]
  rw[hx,if_pos rfl,if_neg (fun hh=>by rw[hc.l] at hh;cases hh.1)]
  have:=Kzu 9 0 l 100 1 (izu l k) k (by omega) (by omega) h hv hl hk (fun p hp=>by simp) (by simp [izu]) rfl
  rw[List.drop_zero] at this
  rw[this]
  unfold finV
  rw[if_pos rfl,if_neg (Nat.lt_irrefl _)]
end Go.Proofs.YtdfbhjpmdjmdaaaGreatDoor
