/- What drawn pairs hold is proven by their root. Of no condition. -/
import Derived.Test.YtoeiajpklkijgaaGreatDoorDA
set_option linter.unusedVariables false
set_option linter.unusedSimpArgs false
set_option maxRecDepth 100000
namespace Go.Proofs.YtoeiajpklkijgaaGreatDoor
open Go.TV
theorem got_cons (p:tPair) (l:List tPair) (k:ByteArray):gotV (p::l) k=if p.1=k then (p.2.1,true) else gotV l k:=by
 unfold gotV
 rw[List.find?_cons]
 by_cases h:p.1=k
 ·rw[decide_eq_true h,if_pos h]
 ·rw[decide_eq_false h,if_neg h]
theorem got_loop (l:List tPair) (hl:l.length≤1000) (k:ByteArray): ∀ (m i:Nat),i+m=l.length→wGot_D2 (l,(k,((i:Int),())))=some (((gotV (l.drop i) k).1,((gotV (l.drop i) k).2,())),()):=by
 intro m
 induction m with
 |zero=>
  intro i hi
  rw[wGot_q2,show (i:Int)=(l.length:Int) by omega,ilt_end,cnd_f,List.drop_eq_nil_of_le (by omega)]
  rfl
 |succ m ih=>
  intro i hi
  have h1:i<l.length:=by omega
  rw[wGot_q2,ilt_at h1,cnd_t,inb_at h1,cnd_t,rd_at h1,seq_d,List.drop_eq_getElem_cons h1,got_cons]
  by_cases h:l[i].1=k
  ·rw[decide_eq_true h,cnd_t,cnd_t,if_pos h]
  ·rw[decide_eq_false h,cnd_f,if_neg h,next_at (by omega),ih (i+1) (by omega)]
theorem got_l (l:List tPair) (hl:l.length≤1000) (k:ByteArray):wGot_d (l,(k,()))=some (((gotV l k).1,((gotV l k).2,())),()):=by
 rw[wGot_b]
 exact got_loop l hl k l.length 0 (by omega)
theorem load_more {a c:List ByteArray} {u:Nat} {h:ByteArray} (e:(loadV a u h).2=0):loadV (a++c) u h=loadV a u h:=by
 have hu:=(loadV_fit e).2
 unfold loadV
 have e1:(a++c).getD u (bs [])=a.getD u (bs []):=by
  rw[List.getD_eq_getElem?_getD,List.getD_eq_getElem?_getD,List.getElem?_append_left hu]
 rw[if_pos hu,if_pos (by rw[List.length_append];omega),e1]
theorem run_more {a c:List ByteArray}: ∀ (f:Nat) (left:List Int) (u:Nat) (x:ItemT),u≤a.length→(runV a f left u x).2.2.1=0→runV (a++c) f left u x=runV a f left u x∧(runV a f left u x).2.2.2≤a.length:=by
 intro f
 induction f with
 |zero=>intro left u x hu h;cases h
 |succ f ih=>
  intro left u x hu h
  unfold runV at h⊢
  generalize hk:(nextV x left).2.2=k at h⊢
  match k with
  |1=>exact ⟨rfl,hu⟩
  |2=>exact ⟨rfl,hu⟩
  |0=>
   simp only[] at h⊢
   by_cases hl:(nextV x left).1.l=true
   ·rw[if_pos hl] at h
    rw[if_pos hl,if_pos hl]
    exact ih _ _ _ hu h
   ·rw[if_neg hl] at h
    rw[if_neg hl,if_neg hl]
    by_cases h32:(nextV x left).1.s.size=32
    ·rw[if_pos h32] at h
     rw[if_pos h32,if_pos h32]
     by_cases la:(loadV a u (nextV x left).1.s).2=0
     ·rw[if_pos la] at h
      rw[load_more la,if_pos la,if_pos la]
      exact ih _ _ _ (loadV_fit la).2 h
     ·rw[if_neg la] at h
      exact absurd h la
    ·rw[if_neg h32] at h
     cases h
  |k+3=>cases h
theorem ver_more {root key t v:ByteArray} {b:Bool} {a:List ByteArray} (h:verV root key a=(v,(b,(0,())))) (hl:a.length≤11):verV root key (a++[t])=(bs [],(false,(4,()))):=by
 unfold verV at h⊢
 split at h
 ·cases h
 ·rename_i hn
  have hn':root.size=32∧key.size=4∧1≤a.length∧a.length≤12:=Classical.not_not.1 hn
  rw[if_neg (fun hh=>hh ⟨hn'.1,hn'.2.1,by rw[List.length_append];omega,by rw[List.length_append,List.length_singleton];omega⟩)]
  split at h
  ·rename_i h0
   have hlen:(a++[t]).length=a.length+1:=by rw[List.length_append];rfl
   rw[load_more h0,if_pos h0]
   split at h
   ·rename_i h1
    rw[if_pos h1]
    unfold finV
    rw[if_pos rfl,if_pos (by rw[hlen];show 1<a.length+1;omega)]
   ·rename_i h1
    rw[if_neg h1]
    unfold finV at h
    split at h
    ·rename_i h2
     obtain ⟨r1,r2⟩:=run_more (c:=[t]) 100 (nibV key) 1 (loadV a 0 root).1 hn'.2.2.1 h2
     rw[r1]
     unfold finV
     rw[if_pos h2,if_pos (by rw[hlen];omega)]
    ·rename_i h2
     have h3:((runV a 100 (nibV key) 1 (loadV a 0 root).1).2.2.1:Int)=0:=congrArg (fun r:ByteArray× (Bool× (Int×Unit))=>r.2.2.1) h
     omega
  ·rename_i h0
   have h3:((loadV a 0 root).2:Int)=0:=congrArg (fun r:ByteArray× (Bool× (Int×Unit))=>r.2.2.1) h
   omega
theorem ver_none (root key:ByteArray):verV root key []=(bs [],(false,(1,()))):=by
 unfold verV
 rw[if_pos (fun hh=>by have:=hh.2.2.1;simp at this)]
theorem proveV_len (l:List tPair) (k:ByteArray):(proveV l k).length≤10:=by
 have:=proveR_len 9 0 l (nibV k)
 simp only[proveV,List.length_cons];omega
theorem pok_draw {l:List tPair} (h1:l.length≤8) (h2: ∀p∈l,sizesP p) (h3:l.Pairwise ltP):pokV l=true:=pok_of (by omega) h2 h3
theorem proved_ok {l:List tPair} {k:ByteArray} (hp:pokV l=true) (hk:k.size=4):provedV l k=proveV l k:=by
 unfold provedV;rw[if_pos ⟨hk,hp⟩]
theorem troot_ok {l:List tPair} (hp:pokV l=true):trootV l=digestV (itemR (trieV 9 0 l)).1:=by
 unfold trootV;rw[if_pos hp]
theorem ver_ok {l:List tPair} {k:ByteArray} (hp:pokV l=true) (hk:k.size=4):verV (trootV l) k (proveV l k)=((gotV l k).1,((gotV l k).2,(0,()))):=by
 rw[troot_ok hp]
 exact ver_right l k (pok_good hp) (fun p h=>(pok_to hp p h).2.2) hk
def oneC (x y:ByteArray):Bool:=!decide (x=y)&&decide (digestV x=digestV y)
def clashV (a b:List ByteArray):Bool:=a.any fun x=>b.any (oneC x)
theorem clash_iff {a b:List ByteArray}:Clash a b→clashV a b=true:=by
 rintro ⟨x,hx,y,hy,h1,h2⟩
 unfold clashV
 rw[List.any_eq_true]
 refine ⟨x,hx,?_⟩
 rw[List.any_eq_true]
 exact ⟨y,hy,by unfold oneC;rw[decide_eq_false h1,decide_eq_true h2];rfl⟩
theorem clash_in (a b:List ByteArray) (ha: ∀x∈a,x.size≤268435456) (hb: ∀x∈b,x.size≤268435456) (la:a.length≤1000) (lb:b.length≤1000) (i:Nat) (hi:i<a.length): ∀ (m k:Nat),k+m=b.length→
 wClash_D5 (a,(b,((i:Int),((k:Int),()))))=Go.TV.cnd ((b.drop k).any (oneC a[i])) (some ((true,()),())) (wClash_D2 (a,(b,(((i+1:Nat):Int),())))):=by
 intro m
 induction m with
 |zero=>
  intro k hk
  rw[wClash_q5,show (k:Int)=(b.length:Int) by omega,ilt_end,cnd_f,List.drop_eq_nil_of_le (by omega),List.any_nil,cnd_f,next_at (by omega)]
 |succ m ih=>
  intro k hk
  have h1:k<b.length:=by omega
  rw[wClash_q5,ilt_at h1,cnd_t,inb_at hi,cnd_t,inb_at h1,cnd_t,rd_at hi,rd_at h1,sne_d,List.drop_eq_getElem_cons h1,List.any_cons]
  by_cases e:a[i]=b[k]
  ·rw[decide_eq_true e,Bool.not_true,cnd_f,next_at (by omega),ih (k+1) (by omega),show oneC a[i] b[k]=false by unfold oneC;rw[decide_eq_true e];rfl,Bool.false_or]
  ·rw[decide_eq_false e,Bool.not_false,cnd_t,cnd_t,sDigest_l _ (ha _ (List.getElem_mem hi)),bnd_s,cnd_t,sDigest_l _ (hb _ (List.getElem_mem h1)),bnd_s]
   simp only[]
   rw[seq_d]
   by_cases e2:digestV a[i]=digestV b[k]
   ·rw[decide_eq_true e2,cnd_t,show oneC a[i] b[k]=true by unfold oneC;rw[decide_eq_false e,decide_eq_true e2];rfl,Bool.true_or,cnd_t]
   ·rw[decide_eq_false e2,cnd_f,next_at (by omega),ih (k+1) (by omega),show oneC a[i] b[k]=false by unfold oneC;rw[decide_eq_false e,decide_eq_false e2];rfl,Bool.false_or]
theorem clash_out (a b:List ByteArray) (ha: ∀x∈a,x.size≤268435456) (hb: ∀x∈b,x.size≤268435456) (la:a.length≤1000) (lb:b.length≤1000): ∀ (m i:Nat),i+m=a.length→wClash_D2 (a,(b,((i:Int),())))=some ((clashV (a.drop i) b,()),()):=by
 intro m
 induction m with
 |zero=>
  intro i hi
  rw[wClash_q2,show (i:Int)=(a.length:Int) by omega,ilt_end,cnd_f,List.drop_eq_nil_of_le (by omega)]
  rfl
 |succ m ih=>
  intro i hi
  have h1:i<a.length:=by omega
  have:=clash_in a b ha hb la lb i h1 b.length 0 (by omega)
  rw[show ((0:Nat):Int)=0 from rfl,List.drop_zero] at this
  rw[wClash_q2,ilt_at h1,cnd_t,this,ih (i+1) (by omega),List.drop_eq_getElem_cons h1]
  show _=some ((b.any (oneC a[i])||clashV (a.drop (i+1)) b,()),())
  cases b.any (oneC a[i])<;>rfl
theorem clash_l (a b:List ByteArray) (ha: ∀x∈a,x.size≤268435456) (hb: ∀x∈b,x.size≤268435456) (la:a.length≤1000) (lb:b.length≤1000):wClash_d (a,(b,()))=some ((clashV a b,()),()):=by
 rw[wClash_b]
 exact clash_out a b ha hb la lb a.length 0 (by omega)
theorem proveR_size: ∀ (f n:Nat) (l:List tPair) (h:List Int),∀t∈proveR f n l h,t.size≤268435456
 |0,n,l,h,t,ht=>by simp [proveR] at ht
 |f+1,n,[],h,t,ht=>by simp [proveR] at ht
 |f+1,n,[p],h,t,ht=>by simp [proveR] at ht
 |f+1,n,p::q::r,h,t,ht=>by
  have own: ∀n l,t∈ownV f n l→t.size≤268435456:=fun n l ht=>by
   have:=itemR_size (trieV f n l)
   unfold ownV at ht
   split at ht
   ·rw[List.mem_singleton.1 ht];omega
   ·cases ht
  unfold proveR at ht
  split at ht
  ·rcases List.mem_append.1 ht with ht|ht
   ·exact own _ _ ht
   ·exact proveR_size f _ _ h t ht
  ·split at ht
   ·cases ht
   ·rcases List.mem_append.1 ht with ht|ht
    ·exact own _ _ ht
    ·exact proveR_size f _ _ h t ht
theorem proveV_size (l:List tPair) (k:ByteArray): ∀t∈proveV l k,t.size≤268435456:=fun t ht=>by
 rcases List.mem_cons.1 ht with rfl|ht
 ·have:=itemR_size (trieV 9 0 l);omega
 ·exact proveR_size 9 0 l (nibV k) t ht
end Go.Proofs.YtoeiajpklkijgaaGreatDoor
