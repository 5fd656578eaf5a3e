/- Proofs of tries are made. Of no condition. -/
import Derived.Test.YtdfbhjpmdjmdaaaGreatDoorTF
set_option linter.unusedVariables false
set_option linter.unusedSimpArgs false
set_option maxRecDepth 100000
namespace Go.Proofs.YtdfbhjpmdjmdaaaGreatDoor
open Go.TV
noncomputable def ownV (f n:Nat) (l:List azh):List ByteArray:=if 31<(bzn (azF f n l)).1.size then [(bzn (azF f n l)).1] else []
noncomputable def czg:Nat→Nat→List azh→List Int→List ByteArray
 |f+1,n,p::q::r,h=>if shV (q::r) ((nibV p.1).drop n) n (8-n)=0 then
   ownV f (n+1) ((p::q::r).filter fun p=>az8 p n (h.getD n 0))++czg f (n+1) ((p::q::r).filter fun p=>az8 p n (h.getD n 0)) h
  else if comV (h.drop n) ((nibV p.1).drop n)<shV (q::r) ((nibV p.1).drop n) n (8-n) then []
  else ownV f (n+shV (q::r) ((nibV p.1).drop n) n (8-n)) (p::q::r)++czg f (n+shV (q::r) ((nibV p.1).drop n) n (8-n)) (p::q::r) h
 |_,_,_,_=>[]
theorem lz0: ∀ (f n:Nat) (l:List azh) (h:List Int),(czg f n l h).length≤f
 |0,n,l,h=>by simp [czg]
 |f+1,n,[],h=>by simp [czg]
 |f+1,n,[p],h=>by simp [czg]
 |f+1,n,p::q::r,h=>by
  have own: ∀n l,(ownV f n l).length≤1:=fun n l=>by unfold ownV;split<;>simp
  unfold czg
  split
  ·have h1:=own (n+1) ((p::q::r).filter fun p=>az8 p n (h.getD n 0))
   have h2:=lz0 f (n+1) ((p::q::r).filter fun p=>az8 p n (h.getD n 0)) h
   rw[List.length_append];omega
  ·split
   ·simp
   ·have h1:=own (n+shV (q::r) ((nibV p.1).drop n) n (8-n)) (p::q::r)
    have h2:=lz0 f (n+shV (q::r) ((nibV p.1).drop n) n (8-n)) (p::q::r) h
    rw[List.length_append];omega
noncomputable def izu (l:List azh) (k:ByteArray):List ByteArray:=(bzn (azF 9 0 l)).1::czg 9 0 l (nibV k)
theorem NzE: ∀ (f n:Nat) (l:List azh) (out:List ByteArray) (k:ByteArray) (told:Bool),8-n<f→GoodP l n→k.size=4→out.length+f≤1000→
 dzU (out,(l,(nibV k,((n:Int),(told,())))))=some ((out++((if told=true then [(bzn (azF f n l)).1] else ownV f n l)++czg f n l (nibV k)),()),()):=by
 intro f
 induction f with
 |zero=>intro n l out k told h;omega
 |succ f IH=>
  intro n l out k told hf h hk ho
  have hkl:(nibV k).length=8:=by rw[czN,hk]
  have h4: ∀out':List ByteArray,out'.length+f≤1000→cz6 (out',(l,(nibV k,((n:Int),()))))=some ((out'++czg (f+1) n l (nibV k),()),()):=by
   intro out' ho'
   rw[Bzr,azA]
   match l,h with
   | [],h=>rw[bzW (by simp),aza];simp [czg]
   | [p],h=>rw[bzW (by simp),aza];simp [czg]
   |p::q::r,h=>
    have hlt:=h.lt
    have hln:=h.len
    have hp:=h.nib (p:=p) (by simp)
    have hz:=h.key p (by simp)
    have hst:=h.step
    have hshle:=rzJ (q::r) ((nibV p.1).drop n) n (8-n)
    rw[az7 (by simp only[List.length_cons];omega),azc,DzN p (q::r) n h,azd]
    simp only[]
    unfold czg
    generalize hsh:shV (q::r) ((nibV p.1).drop n) n (8-n)=sh at*
    by_cases hs:sh=0
    ·subst hs
     have h8:n<(nibV k).length:=by omega
     rw[show ieq ((0:Nat):Int) 0=true from rfl,aza,az0 h8,aza,bzA h8,Lz1 _ n hlt _ hln h.key,azd]
     simp only[]
     have e:(nibV k).getD n 0=(nibV k)[n]:=by rw[List.getD_eq_getElem?_getD,List.getElem?_eq_getElem h8];rfl
     rw[azq (by omega),IH (n+1) _ out' k false (by omega) (h.half hlt _) hk (by omega),azd,if_pos trivial,e]
     rfl
    ·rw[czd,decide_eq_false (by omega),azc,bzu (by omega) (by rw[azA];omega) (by omega),aza,show inb 0 ((p::q::r).length:Int)=true from bzI (by omega) (by simp only[List.length_cons];omega),aza,show rd bzr (p::q::r) 0=p from rfl,sz9 _ (by omega),azd]
     simp only[]
     rw[bzu (i:=(n:Int)) (j:=len (nibV p.1)) (by omega) (by rw[azA];omega) (by omega),aza,hzC,hzC,Jz0 _ _ (by rw[List.length_drop];omega),azd,if_neg hs]
     simp only[]
     by_cases hc:comV ((nibV k).drop n) ((nibV p.1).drop n)<sh
     ·rw[bzW (by omega),aza,if_pos hc,List.append_nil]
     ·rw[az7 (by omega),azc,azH (by omega) (by omega),show (n:Int)+(sh:Int)=((n+sh:Nat):Int) by omega,IH (n+sh) _ out' k false (by omega) hst hk (by omega),azd,if_neg hc]
      rfl
  have hz:=fzu (azF (f+1) n l)
  rw[CzK,Czs (f+1) n l hf h,azd]
  simp only[]
  rw[ez5,azd]
  simp only[]
  cases told with
  |true=>
   rw[aza,azv (by decide) (by simp only[List.length_cons,List.length_nil];omega),aza,if_pos rfl]
   show cz6 (out++[(bzn (azF (f+1) n l)).1],(l,(nibV k,((n:Int),()))))=_
   rw[h4 _ (by simp only[List.length_append,List.length_cons,List.length_nil];omega),List.append_assoc]
  |false=>
   rw[azc,if_neg (by decide),azN]
   unfold ownV
   by_cases h31:31<(bzn (azF (f+1) n l)).1.size
   ·rw[cze (by omega),aza,azv (by decide) (by simp only[List.length_cons,List.length_nil];omega),aza,if_pos h31]
    show cz6 (out++[(bzn (azF (f+1) n l)).1],(l,(nibV k,((n:Int),()))))=_
    rw[h4 _ (by simp only[List.length_append,List.length_cons,List.length_nil];omega),List.append_assoc]
   ·rw[bzy (by omega),azc,if_neg h31,h4 _ (by omega),List.nil_append]
noncomputable def az1 (l:List azh) (k:ByteArray):List ByteArray:=if k.size=4∧pokV l=true then izu l k else []
theorem rzD (l:List azh) (k:ByteArray):hzO (l,(k,()))=some ((az1 l k,()),()):=by
 rw[Ezm,czY,azN]
 unfold az1
 by_cases hk:k.size=4
 ·rw[decide_eq_true (by omega),Bool.not_true,azc,KzM,azd]
  simp only[]
  cases hp:pokV l with
  |false=>rw[if_neg (fun hh=>by cases hh.2)];rfl
  |true=>
   rw[show bnot true=false from rfl,azc,sz9 k (by omega),azd,if_pos ⟨hk,rfl⟩]
   simp only[]
   rw[show dzU (([]:List ByteArray),(l,(nibV k,((0:Int),(true,())))))=_ from NzE 9 0 l [] k true (by omega) (izY hp) hk (by simp),azd]
   rfl
 ·rw[decide_eq_false (by omega),Bool.not_false,aza,if_neg (fun hh=>hk hh.1)]
end Go.Proofs.YtdfbhjpmdjmdaaaGreatDoor
