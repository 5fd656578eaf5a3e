/- What drawn pairs hold is proven by their root. Of no condition. -/
import Derived.Test.YtdfbhjpmdjmdaaaGreatDoorDA
set_option linter.unusedVariables false
set_option linter.unusedSimpArgs false
set_option maxRecDepth 100000
namespace Go.Proofs.YtdfbhjpmdjmdaaaGreatDoor
open Go.TV
theorem GzY (p:azh) (l:List azh) (k:ByteArray):gotV (p::l) k=if p.1=k then (p.2.1,true) else gotV l k:=by
 unfold gotV
 rw[List.find?_cons]
 by_cases h:p.1=k
 ·rw[decide_eq_true h,if_pos h]
 ·rw[decide_eq_false h,if_neg h]
theorem OzS (l:List azh) (hl:l.length≤1000) (k:ByteArray): ∀ (m i:Nat),i+m=l.length→Bzd (l,(k,((i:Int),())))=some (((gotV (l.drop i) k).1,((gotV (l.drop i) k).2,())),()):=by
 intro m
 induction m with
 |zero=>
  intro i hi
  rw[Kz6,show (i:Int)=(l.length:Int) by omega,bzb,azc,List.drop_eq_nil_of_le (by omega)]
  rfl
 |succ m ih=>
  intro i hi
  have h1:i<l.length:=by omega
  rw[Kz6,bzp h1,aza,az0 h1,aza,bzA h1,nzV,List.drop_eq_getElem_cons h1,GzY]
  by_cases h:l[i].1=k
  ·rw[decide_eq_true h,aza,aza,if_pos h]
  ·rw[decide_eq_false h,azc,if_neg h,azq (by omega),ih (i+1) (by omega)]
theorem got_l (l:List azh) (hl:l.length≤1000) (k:ByteArray):Hzb (l,(k,()))=some (((gotV l k).1,((gotV l k).2,())),()):=by
 rw[wGot_b]
 exact OzS l hl k l.length 0 (by omega)
theorem Czv {a c:List ByteArray} {u:Nat} {h:ByteArray} (e:(bzt a u h).2=0):bzt (a++c) u h=bzt a u h:=by
 have hu:=(ezC e).2
 unfold bzt
 have e1:(a++c).getD u (bs [])=a.getD u (bs []):=by
  rw[List.getD_eq_getElem?_getD,List.getD_eq_getElem?_getD,List.getElem?_append_left hu]
 rw[if_pos hu,if_pos (by rw[List.length_append];omega),e1]
theorem OzR {a c:List ByteArray}: ∀ (f:Nat) (left:List Int) (u:Nat) (x:ItemT),u≤a.length→(runV a f left u x).2.2.1=0→runV (a++c) f left u x=runV a f left u x∧(runV a f left u x).2.2.2≤a.length:=by
 intro f
 induction f with
 |zero=>intro left u x hu h;cases h
 |succ f ih=>
  intro left u x hu h
  unfold runV at h⊢
  generalize hk:(az9 x left).2.2=k at h⊢
  match k with
  |1=>exact ⟨rfl,hu⟩
  |2=>exact ⟨rfl,hu⟩
  |0=>
   simp only[] at h⊢
   by_cases hl:(az9 x left).1.l=true
   ·rw[if_pos hl] at h
    rw[if_pos hl,if_pos hl]
    exact ih _ _ _ hu h
   ·rw[if_neg hl] at h
    rw[if_neg hl,if_neg hl]
    by_cases h32:(az9 x left).1.s.size=32
    ·rw[if_pos h32] at h
     rw[if_pos h32,if_pos h32]
     by_cases la:(bzt a u (az9 x left).1.s).2=0
     ·rw[if_pos la] at h
      rw[Czv la,if_pos la,if_pos la]
      exact ih _ _ _ (ezC la).2 h
     ·rw[if_neg la] at h
      exact absurd h la
    ·rw[if_neg h32] at h
     cases h
  |k+3=>cases h
theorem ver_more {root key t v:ByteArray} {b:Bool} {a:List ByteArray} (h:verV root key a=(v,(b,(0,())))) (hl:a.length≤11):verV root key (a++[t])=(bs [],(false,(4,()))):=by
 unfold verV at h⊢
 split at h
 ·cases h
 ·rename_i hn
  have hn':root.size=32∧key.size=4∧1≤a.length∧a.length≤12:=Classical.not_not.1 hn
  rw[if_neg (fun hh=>hh ⟨hn'.1,hn'.2.1,by rw[List.length_append];omega,by rw[List.length_append,List.length_singleton];omega⟩)]
  split at h
  ·rename_i h0
   have hlen:(a++[t]).length=a.length+1:=by rw[List.length_append];rfl
   rw[Czv h0,if_pos h0]
   split at h
   ·rename_i h1
    rw[if_pos h1]
    unfold finV
    rw[if_pos rfl,if_pos (by rw[hlen];show 1<a.length+1;omega)]
   ·rename_i h1
    rw[if_neg h1]
    unfold finV at h
    split at h
    ·rename_i h2
     obtain ⟨r1,r2⟩:=OzR (c:=[t]) 100 (nibV key) 1 (bzt a 0 root).1 hn'.2.2.1 h2
     rw[r1]
     unfold finV
     rw[if_pos h2,if_pos (by rw[hlen];omega)]
    ·rename_i h2
     have h3:((runV a 100 (nibV key) 1 (bzt a 0 root).1).2.2.1:Int)=0:=congrArg (fun r:ByteArray× (Bool× (Int×Unit))=>r.2.2.1) h
     omega
  ·rename_i h0
   have h3:((bzt a 0 root).2:Int)=0:=congrArg (fun r:ByteArray× (Bool× (Int×Unit))=>r.2.2.1) h
   omega
theorem ver_none (root key:ByteArray):verV root key []=(bs [],(false,(1,()))):=by
 unfold verV
 rw[if_pos (fun hh=>by have:=hh.2.2.1;simp at this)]
theorem proveV_len (l:List azh) (k:ByteArray):(izu l k).length≤10:=by
 have:=lz0 9 0 l (nibV k)
 simp only[izu,List.length_cons];omega
theorem pok_draw {l:List azh} (h1:l.length≤8) (h2: ∀p∈l,nzQ p) (h3:l.Pairwise ltP):pokV l=true:=MzF (by omega) h2 h3
theorem proved_ok {l:List azh} {k:ByteArray} (hp:pokV l=true) (hk:k.size=4):az1 l k=izu l k:=by
 unfold az1;rw[if_pos ⟨hk,hp⟩]
theorem Ozk {l:List azh} (hp:pokV l=true):azS l=azo (bzn (azF 9 0 l)).1:=by
 unfold azS;rw[if_pos hp]
theorem ver_ok {l:List azh} {k:ByteArray} (hp:pokV l=true) (hk:k.size=4):verV (azS l) k (izu l k)=((gotV l k).1,((gotV l k).2,(0,()))):=by
 rw[Ozk hp]
 exact rz6 l k (izY hp) (fun p h=>(pok_to hp p h).2.2) hk
end Go.Proofs.YtdfbhjpmdjmdaaaGreatDoor
