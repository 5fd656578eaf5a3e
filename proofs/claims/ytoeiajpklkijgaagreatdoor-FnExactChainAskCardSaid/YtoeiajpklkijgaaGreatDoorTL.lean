/- Proofs of tries are verified. Of no condition. -/
import Derived.Test.YtoeiajpklkijgaaGreatDoorTK
set_option linter.unusedVariables false
set_option linter.unusedSimpArgs false
set_option maxRecDepth 100000
namespace Go.Proofs.YtoeiajpklkijgaaGreatDoor
open Go.TV
theorem fit_kid {d:Nat} {x:ItemT} (h:fitV d x=true) {y:ItemT} (hy:y∈x.k):x.l=true∧ ∃e,d=e+1∧fitV e y=true:=by
 cases x with
 |mk l s k=>
  cases l with
  |false=>rw[(fit_leaf h).2] at hy;cases hy
  |true=>
   obtain ⟨_,_,e,h1,h2⟩:=fit_list h
   exact ⟨rfl,e,h1,h2 y hy⟩
theorem fit_s {d:Nat} {x:ItemT} (h:fitV d x=true):x.s.size≤600:=by
 cases x with
 |mk l s k=>
  cases l with
  |false=>exact (fit_leaf h).1
  |true=>rw[(fit_list h).1];show (bs []).size≤600;decide
theorem fit_small {d:Nat} {x:ItemT} (h:fitV d x=true):KidS x:=fun y hy=>by
 obtain ⟨_,e,_,h2⟩:=fit_kid h hy
 have:=fit_s h2
 omega
theorem getD_mem {l:List ItemT} {i:Nat} (h:i<l.length):l.getD i zI∈l:=by
 rw[List.getD_eq_getElem?_getD,List.getElem?_eq_getElem h]
 exact List.getElem_mem h
theorem next_facts (x:ItemT) (left:List Int) (h: ∀a∈left,0≤a∧a≤15):(nextV x left).2.2≤3∧((nextV x left).2.2=0→(nextV x left).1∈x.k∧(nextV x left).2.1≤left.length):=by
 unfold nextV
 split
 ·exact ⟨Nat.le_refl 3,fun h=>by cases h⟩
 ·split
  ·rename_i h17
   cases left with
   |nil=>exact ⟨(by decide:1≤3),fun h=>by cases h⟩
   |cons a r=>
    have ha:=h a (by simp)
    simp only[]
    split
    ·exact ⟨by simp,fun h=>by cases h⟩
    ·exact ⟨by simp,fun _=>⟨getD_mem (by omega),by simp⟩⟩
  ·split
   ·exact ⟨by simp,fun h=>by cases h⟩
   ·rename_i h2
    have h2:x.k.length=2:=by
     by_cases hh:x.k.length=2
     ·exact hh
     ·exact absurd (Or.inl hh) h2
    split
    ·exact ⟨by simp,fun h=>by cases h⟩
    ·split
     ·exact ⟨by simp,fun h=>by cases h⟩
     ·split
      ·split
       ·exact ⟨by simp,fun h=>by cases h⟩
       ·exact ⟨by simp,fun h=>by cases h⟩
      ·exact ⟨by simp,fun _=>⟨getD_mem (by omega),(com_le _ _).2⟩⟩
end Go.Proofs.YtoeiajpklkijgaaGreatDoor
