/- Proofs of tries are made. Of no condition. -/
import Derived.Test.YthldgfkkgmpmlaaGreatDoorTF
set_option linter.unusedVariables false
set_option linter.unusedSimpArgs false
set_option maxRecDepth 100000
namespace Go.Proofs.YthldgfkkgmpmlaaGreatDoor
open Go.TV
noncomputable def ownV (f n:Nat) (l:List azl):List ByteArray:=if 31<(bzu (azD f n l)).1.size then [(bzu (azD f n l)).1] else []
noncomputable def czO:Nat→Nat→List azl→List Int→List ByteArray
 |f+1,n,p::q::r,h=>if shV (q::r) ((nibV p.1).drop n) n (8-n)=0 then
   ownV f (n+1) ((p::q::r).filter fun p=>az6 p n (h.getD n 0))++czO f (n+1) ((p::q::r).filter fun p=>az6 p n (h.getD n 0)) h
  else if comV (h.drop n) ((nibV p.1).drop n)<shV (q::r) ((nibV p.1).drop n) n (8-n) then []
  else ownV f (n+shV (q::r) ((nibV p.1).drop n) n (8-n)) (p::q::r)++czO f (n+shV (q::r) ((nibV p.1).drop n) n (8-n)) (p::q::r) h
 |_,_,_,_=>[]
theorem rzn: ∀ (f n:Nat) (l:List azl) (h:List Int),(czO f n l h).length≤f
 |0,n,l,h=>by simp [czO]
 |f+1,n,[],h=>by simp [czO]
 |f+1,n,[p],h=>by simp [czO]
 |f+1,n,p::q::r,h=>by
  have own: ∀n l,(ownV f n l).length≤1:=fun n l=>by unfold ownV;split<;>simp
  unfold czO
  split
  ·have h1:=own (n+1) ((p::q::r).filter fun p=>az6 p n (h.getD n 0))
   have h2:=rzn f (n+1) ((p::q::r).filter fun p=>az6 p n (h.getD n 0)) h
   rw[List.length_append];omega
  ·split
   ·simp
   ·have h1:=own (n+shV (q::r) ((nibV p.1).drop n) n (8-n)) (p::q::r)
    have h2:=rzn f (n+shV (q::r) ((nibV p.1).drop n) n (8-n)) (p::q::r) h
    rw[List.length_append];omega
noncomputable def oz8 (l:List azl) (k:ByteArray):List ByteArray:=(bzu (azD 9 0 l)).1::czO 9 0 l (nibV k)
theorem Uzf: ∀ (f n:Nat) (l:List azl) (out:List ByteArray) (k:ByteArray) (told:Bool),8-n<f→GoodP l n→k.size=4→out.length+f≤1000→
 dzY (out,(l,(nibV k,((n:Int),(told,())))))=some ((out++((if told=true then [(bzu (azD f n l)).1] else ownV f n l)++czO f n l (nibV k)),()),()):=by
 intro f
 induction f with
 |zero=>intro n l out k told h;omega
 |succ f IH=>
  intro n l out k told hf h hk ho
  have hkl:(nibV k).length=8:=by rw[czL,hk]
  have h4: ∀out':List ByteArray,out'.length+f≤1000→cz3 (out',(l,(nibV k,((n:Int),()))))=some ((out'++czO (f+1) n l (nibV k),()),()):=by
   intro out' ho'
   rw[Gza,azz]
   match l,h with
   | [],h=>rw[bzT (by simp),aza];simp [czO]
   | [p],h=>rw[bzT (by simp),aza];simp [czO]
   |p::q::r,h=>
    have hlt:=h.lt
    have hln:=h.len
    have hp:=h.nib (p:=p) (by simp)
    have hz:=h.key p (by simp)
    have hst:=h.step
    have hshle:=uzC (q::r) ((nibV p.1).drop n) n (8-n)
    rw[az0 (by simp only[List.length_cons];omega),azc,Hz1 p (q::r) n h,azb]
    simp only[]
    unfold czO
    generalize hsh:shV (q::r) ((nibV p.1).drop n) n (8-n)=sh at*
    by_cases hs:sh=0
    ·subst hs
     have h8:n<(nibV k).length:=by omega
     rw[show ieq ((0:Nat):Int) 0=true from rfl,aza,azP h8,aza,bzs h8,Rzu _ n hlt _ hln h.key,azb]
     simp only[]
     have e:(nibV k).getD n 0=(nibV k)[n]:=by rw[List.getD_eq_getElem?_getD,List.getElem?_eq_getElem h8];rfl
     rw[azq (by omega),IH (n+1) _ out' k false (by omega) (h.half hlt _) hk (by omega),azb,if_pos trivial,e]
     rfl
    ·rw[czl,decide_eq_false (by omega),azc,bzt (by omega) (by rw[azz];omega) (by omega),aza,show inb 0 ((p::q::r).length:Int)=true from bz0 (by omega) (by simp only[List.length_cons];omega),aza,show rd bzd (p::q::r) 0=p from rfl,uzr _ (by omega),azb]
     simp only[]
     rw[bzt (i:=(n:Int)) (j:=len (nibV p.1)) (by omega) (by rw[azz];omega) (by omega),aza,hz3,hz3,QzH _ _ (by rw[List.length_drop];omega),azb,if_neg hs]
     simp only[]
     by_cases hc:comV ((nibV k).drop n) ((nibV p.1).drop n)<sh
     ·rw[bzT (by omega),aza,if_pos hc,List.append_nil]
     ·rw[az0 (by omega),azc,azA (by omega) (by omega),show (n:Int)+(sh:Int)=((n+sh:Nat):Int) by omega,IH (n+sh) _ out' k false (by omega) hst hk (by omega),azb,if_neg hc]
      rfl
  have hz:=gzb (azD (f+1) n l)
  rw[HzB,Fz0 (f+1) n l hf h,azb]
  simp only[]
  rw[fzn,azb]
  simp only[]
  cases told with
  |true=>
   rw[aza,azv (by decide) (by simp only[List.length_cons,List.length_nil];omega),aza,if_pos rfl]
   show cz3 (out++[(bzu (azD (f+1) n l)).1],(l,(nibV k,((n:Int),()))))=_
   rw[h4 _ (by simp only[List.length_append,List.length_cons,List.length_nil];omega),List.append_assoc]
  |false=>
   rw[azc,if_neg (by decide),azL]
   unfold ownV
   by_cases h31:31<(bzu (azD (f+1) n l)).1.size
   ·rw[bzU (by omega),aza,azv (by decide) (by simp only[List.length_cons,List.length_nil];omega),aza,if_pos h31]
    show cz3 (out++[(bzu (azD (f+1) n l)).1],(l,(nibV k,((n:Int),()))))=_
    rw[h4 _ (by simp only[List.length_append,List.length_cons,List.length_nil];omega),List.append_assoc]
   ·rw[bzi (by omega),azc,if_neg h31,h4 _ (by omega),List.nil_append]
noncomputable def czk (l:List azl) (k:ByteArray):List ByteArray:=if k.size=4∧pokV l=true then oz8 l k else []
theorem vzm (l:List azl) (k:ByteArray):izN (l,(k,()))=some ((czk l k,()),()):=by
 rw[Iz8,dzb,azL]
 unfold czk
 by_cases hk:k.size=4
 ·rw[decide_eq_true (by omega),Bool.not_true,azc,RzW,azb]
  simp only[]
  cases hp:pokV l with
  |false=>rw[if_neg (fun hh=>by cases hh.2)];rfl
  |true=>
   rw[show bnot true=false from rfl,azc,uzr k (by omega),azb,if_pos ⟨hk,rfl⟩]
   simp only[]
   rw[show dzY (([]:List ByteArray),(l,(nibV k,((0:Int),(true,())))))=_ from Uzf 9 0 l [] k true (by omega) (rz7 hp) hk (by simp),azb]
   rfl
 ·rw[decide_eq_false (by omega),Bool.not_false,aza,if_neg (fun hh=>hk hh.1)]
end Go.Proofs.YthldgfkkgmpmlaaGreatDoor
