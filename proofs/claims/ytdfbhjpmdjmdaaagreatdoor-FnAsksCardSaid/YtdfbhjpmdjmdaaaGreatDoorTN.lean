/- Pairs put in by order; two proofs by one root. Of no condition. -/
import Derived.Test.YtdfbhjpmdjmdaaaGreatDoorTM
set_option linter.unusedVariables false
set_option linter.unusedSimpArgs false
set_option maxRecDepth 100000
namespace Go.Proofs.YtdfbhjpmdjmdaaaGreatDoor
open Go.TV
def ltP (p q:azh):Prop:=Op.bytesLess (p.1).toList (q.1).toList=true
def nzQ (p:azh):Prop:=p.1.size=4∧1≤p.2.1.size∧p.2.1.size≤60
theorem MzF {l:List azh} (h1:l.length≤12) (h2: ∀p∈l,nzQ p) (h3:l.Pairwise ltP):pokV l=true:=by
 unfold pokV
 rw[decide_eq_true h1,Bool.true_and]
 have one: ∀i,i<l.length→pokA l i=true:=by
  intro i hi
  obtain ⟨k1,k2,k3⟩:=h2 l[i] (List.getElem_mem hi)
  unfold pokA
  simp only[Bool.and_eq_true,decide_eq_true_eq,Bool.or_eq_true,bzA hi,azN]
  refine ⟨by omega,by omega,by omega,?_⟩
  by_cases h0:i=0
  ·exact .inl h0
  ·right
   have hj:i-1<l.length:=by omega
   rw[show ((i:Int)-1)=((i-1:Nat):Int) by omega,bzA hj]
   exact List.pairwise_iff_getElem.1 h3 (i-1) i hj hi (by omega)
 have all: ∀m i,i+m≤l.length→pokF l i m=true:=by
  intro m
  induction m with
  |zero=>intro i _;rfl
  |succ m ih=>intro i hi;show (pokA l i&&pokF l (i+1) m)=true;rw[one i (by omega),ih (i+1) (by omega)];rfl
 exact all l.length 0 (by omega)
theorem pok_to {l:List azh} (h:pokV l=true): ∀p∈l,nzQ p:=by
 intro p hp
 obtain ⟨j,hj,rfl⟩:=List.getElem_of_mem hp
 unfold pokV at h
 rw[Bool.and_eq_true] at h
 have h1:=Bzn l l.length 0 h.2 j (by omega) (by omega)
 unfold pokA at h1
 simp only[Bool.and_eq_true,decide_eq_true_eq,bzA hj,azN] at h1
 exact ⟨by omega,by omega,by omega⟩
theorem PzU: ∀ (a b:List UInt8),Op.bytesLess a b=false→a≠b→Op.bytesLess b a=true
 | [],[],_,h=>absurd rfl h
 | [],b::ys,h,_=>by simp [Op.bytesLess] at h
 |a::xs,[],_,_=>rfl
 |a::xs,b::ys,h,hn=>by
  simp only[Op.bytesLess,Bool.or_eq_true,Bool.or_eq_false_iff,decide_eq_true_eq,decide_eq_false_iff_not,Bool.and_eq_true,Bool.and_eq_false_imp,beq_iff_eq] at h⊢
  by_cases he:b=a
  ·subst he
   exact .inr ⟨rfl,PzU xs ys (h.2 rfl) fun e=>hn (by rw[e])⟩
  ·left
   have h1: ¬a<b:=h.1
   rcases Nat.lt_trichotomy a.toNat b.toNat with h2|h2|h2
   ·exact absurd (UInt8.lt_iff_toNat_lt.2 h2) h1
   ·exact absurd (UInt8.toNat_inj.1 h2).symm he
   ·exact UInt8.lt_iff_toNat_lt.2 h2
theorem Nzu {x y:ByteArray} (h:sgt x y=true):Op.bytesLess y.toList x.toList=true:=by
 have h':(!(Op.bytesLess x.toList y.toList||x.toList==y.toList))=true:=h
 rw[Bool.not_eq_true',Bool.or_eq_false_iff] at h'
 exact PzU _ _ h'.1 fun e=>by rw[e] at h';simp at h'
noncomputable def insP (l:List azh) (p:azh):List azh:=l.filter (fun q=>slt q.1 p.1)++p::l.filter (fun q=>sgt q.1 p.1)
theorem Jzl {l:List azh} (h:l.Pairwise ltP) (p:azh):(insP l p).Pairwise ltP:=by
 unfold insP
 rw[List.pairwise_append]
 refine ⟨h.filter _,?_,?_⟩
 ·rw[List.pairwise_cons]
  refine ⟨fun q hq=>?_,h.filter _⟩
  exact Nzu (List.mem_filter.1 hq).2
 ·intro q hq r hr
  have h1:ltP q p:=(List.mem_filter.1 hq).2
  rcases List.mem_cons.1 hr with rfl|hr
  ·exact h1
  ·exact rz5 _ _ _ h1 (Nzu (List.mem_filter.1 hr).2)
theorem Qzh (l:List azh) (p:azh) (h:l.Pairwise ltP):(insP l p).length≤l.length+1:=by
 unfold insP
 rw[List.length_append,List.length_cons]
 have: ∀m:List azh,(m.filter (fun q=>slt q.1 p.1)).length+(m.filter (fun q=>sgt q.1 p.1)).length≤m.length:=by
  intro m
  induction m with
  |nil=>simp
  |cons q m ih=>
   rw[List.filter_cons,List.filter_cons,List.length_cons]
   have hno: ¬(slt q.1 p.1=true∧sgt q.1 p.1=true):=fun hh=>by
    have:=rz5 _ _ _ hh.1 (Nzu hh.2)
    rw[HzV] at this
    cases this
   by_cases h1:slt q.1 p.1=true
   ·rw[if_pos h1,if_neg (fun h2=>hno ⟨h1,h2⟩),List.length_cons];omega
   ·rw[if_neg h1]
    by_cases h2:sgt q.1 p.1=true
    ·rw[if_pos h2,List.length_cons];omega
    ·rw[if_neg h2];omega
 have:=this l
 omega
theorem LzI {l:List azh} {p:azh} (h: ∀q∈l,nzQ q) (hp:nzQ p): ∀q∈insP l p,nzQ q:=by
 intro q hq
 unfold insP at hq
 rcases List.mem_append.1 hq with hq|hq
 ·exact h q (List.mem_filter.1 hq).1
 ·rcases List.mem_cons.1 hq with rfl|hq
  ·exact hp
  ·exact h q (List.mem_filter.1 hq).1
def Qzn (a b:List ByteArray):Prop:= ∃x∈a,∃y∈b,x≠y∧azo x=azo y
theorem HzS {a b:List ByteArray} {u:Nat} {h:ByteArray} (h1:(bzt a u h).2=0) (h2:(bzt b u h).2=0):bzt a u h=bzt b u h∨Qzn a b:=by
 have u1:=(ezC h1).2
 have u2:=(ezC h2).2
 have e: ∀ (c:List ByteArray),u<c.length→(bzt c u h).2=0→azo (c.getD u (bs []))=h∧bzt c u h=((qz1 (c.getD u (bs []))).1,0):=by
  intro c hc h0
  unfold bzt at h0⊢
  rw[if_pos hc] at h0⊢
  split at h0
  ·rename_i hh;rw[if_pos hh];exact ⟨hh.2,rfl⟩
  ·cases h0
 obtain ⟨d1,l1⟩:=e a u1 h1
 obtain ⟨d2,l2⟩:=e b u2 h2
 have m: ∀ (c:List ByteArray),u<c.length→c.getD u (bs [])∈c:=fun c hc=>by
  rw[List.getD_eq_getElem?_getD,List.getElem?_eq_getElem hc]
  exact List.getElem_mem hc
 by_cases hs:a.getD u (bs [])=b.getD u (bs [])
 ·left;rw[l1,l2,hs]
 ·right;exact ⟨_,m a u1,_,m b u2,hs,by rw[d1,d2]⟩
theorem Qzl {a b:List ByteArray}: ∀ (f:Nat) (left:List Int) (u:Nat) (x:ItemT),(runV a f left u x).2.2.1=0→(runV b f left u x).2.2.1=0→((runV a f left u x).1=(runV b f left u x).1∧(runV a f left u x).2.1=(runV b f left u x).2.1)∨Qzn a b:=by
 intro f
 induction f with
 |zero=>intro left u x h;cases h
 |succ f ih=>
  intro left u x h1 h2
  unfold runV at h1 h2⊢
  generalize hk:(az9 x left).2.2=k at h1 h2⊢
  match k with
  |1=>exact .inl ⟨rfl,rfl⟩
  |2=>exact .inl ⟨rfl,rfl⟩
  |0=>
   simp only[] at h1 h2⊢
   by_cases hl:(az9 x left).1.l=true
   ·rw[if_pos hl] at h1 h2⊢
    rw[if_pos hl]
    exact ih _ _ _ h1 h2
   ·rw[if_neg hl] at h1 h2⊢
    rw[if_neg hl]
    by_cases h32:(az9 x left).1.s.size=32
    ·rw[if_pos h32] at h1 h2⊢
     rw[if_pos h32]
     by_cases la:(bzt a u (az9 x left).1.s).2=0
     ·by_cases lb:(bzt b u (az9 x left).1.s).2=0
      ·rw[if_pos la] at h1⊢
       rw[if_pos lb] at h2⊢
       rcases HzS la lb with e|e
       ·rw[e] at h1⊢
        exact ih _ _ _ h1 h2
       ·exact .inr e
      ·rw[if_neg lb] at h2
       exact absurd h2 lb
     ·rw[if_neg la] at h1
      exact absurd h1 la
    ·rw[if_neg h32] at h1
     cases h1
  |k+3=>cases h1
theorem ver_two {root key:ByteArray} {a b:List ByteArray} (h1:(verV root key a).2.2.1=0) (h2:(verV root key b).2.2.1=0):((verV root key a).1=(verV root key b).1∧(verV root key a).2.1=(verV root key b).2.1)∨Qzn a b:=by
 have cut: ∀c:List ByteArray,(verV root key c).2.2.1=0→(bzt c 0 root).2=0∧verV root key c=if (bzt c 0 root).1.l=false∧(bzt c 0 root).1.s=bs [] then finV c (bs [],(false,(0,1))) else finV c (runV c 100 (nibV key) 1 (bzt c 0 root).1):=by
  intro c h
  unfold verV at h⊢
  split at h
  ·cases h
  ·rename_i hn
   rw[if_neg hn]
   split at h
   ·rename_i h0;rw[if_pos h0];exact ⟨h0,rfl⟩
   ·rename_i h0
    exact absurd (by simpa using h) h0
 have fin: ∀ (c:List ByteArray) (r:ByteArray× (Bool× (Nat×Nat))),(finV c r).2.2.1=0→r.2.2.1=0∧(finV c r).1=r.1∧(finV c r).2.1=r.2.1:=by
  intro c r h
  unfold finV at h⊢
  split at h
  ·rename_i h0
   split at h
   ·cases h
   ·rename_i h3
    rw[if_pos h0,if_neg h3]
    exact ⟨h0,rfl,rfl⟩
  ·rename_i h0
   exact absurd (by simpa using h) h0
 obtain ⟨a0,ea⟩:=cut a h1
 obtain ⟨b0,eb⟩:=cut b h2
 rcases HzS a0 b0 with e|e
 ·rw[ea] at h1⊢
  rw[eb] at h2⊢
  rw[←e] at h2⊢
  by_cases hx:(bzt a 0 root).1.l=false∧(bzt a 0 root).1.s=bs []
  ·rw[if_pos hx] at h1 h2⊢
   rw[if_pos hx]
   left
   exact ⟨(fin a _ h1).2.1.trans (fin b _ h2).2.1.symm,(fin a _ h1).2.2.trans (fin b _ h2).2.2.symm⟩
  ·rw[if_neg hx] at h1 h2⊢
   rw[if_neg hx]
   obtain ⟨a1,a2,a3⟩:=fin a _ h1
   obtain ⟨b1,b2,b3⟩:=fin b _ h2
   rw[a2,a3,b2,b3]
   exact Qzl 100 (nibV key) 1 _ a1 b1
 ·exact .inr e
end Go.Proofs.YtdfbhjpmdjmdaaaGreatDoor
