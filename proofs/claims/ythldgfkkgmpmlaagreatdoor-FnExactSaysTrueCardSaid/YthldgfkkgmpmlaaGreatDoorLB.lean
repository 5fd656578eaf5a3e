/- Accounts of a chain. Of no condition. -/
import Derived.Test.YthldgfkkgmpmlaaGreatDoorLA
set_option linter.unusedVariables false
set_option linter.unusedSimpArgs false
set_option maxRecDepth 100000
namespace Go.Proofs.YthldgfkkgmpmlaaGreatDoor
open Go.TV
theorem qzk {α:Type} {xs:List α} {i:Nat} (h:i<xs.length):xs.drop i=xs[i]::xs.drop (i+1):=List.drop_eq_getElem_cons h
theorem wzq (xs:List azd) (hf:Fine (.sl azu) xs): ∀ (k i:Nat) (acc:List azd),i+k=xs.length→acc.length=i→fzd (acc,(xs,(len xs,((i:Int),()))))=some ((acc++xs.drop i,()),()):=by
 have hl:xs.length≤16777216:=hf.1
 intro k
 induction k with
 |zero=>
  intro i acc hi ha
  rw[pzp,show (i:Int)=(xs.length:Int) by omega,az7,azc,show i=xs.length by omega,List.drop_length,List.append_nil]
 |succ k ih=>
  intro i acc hi ha
  have h:i<xs.length:=by omega
  have hx:=hf.2 xs[i] (List.getElem_mem h)
  rw[pzp,bzh h,aza,azP h,aza,bzs h,Rzw _ hx.2.2.2.1.1,azb,azq (by omega),azv (by decide) (by simp;omega),aza,qzN,ih (i+1) _ (by omega) (by simp;omega),qzk h,List.append_assoc]
  rfl
theorem Bzm (xs:List azd) (hf:Fine (.sl azu) xs):gzl (xs,())=some ((xs,()),()):=by
 rw[AzX]
 exact wzq xs hf xs.length 0 [] (by omega) rfl
def bump (k:Int) (a:azd):azd:=if k<1 then a else (a.1,(if 0≤a.2.1∧1000-a.2.1<k then 1000 else if a.2.1+k<1000 then a.2.1+k else 1000,a.2.2))
theorem Vzy {x y:Int}:imin x y=if y<x then y else x:=rfl
theorem Jzk (k:Int) (hk:1≤k) (hk':k≤9223372036854775807) (n:Int): ∀ (suf pre:List azd),n=((pre.length+suf.length:Nat):Int)→pre.length+suf.length≤16777216→(∀a∈suf,-9223372036854775808≤a.2.1∧a.2.1≤9223372036854775807)→bzH (k,(pre++suf,(n,((pre.length:Int),()))))=some ((pre++suf.map (bump k),()),()):=by
 intro suf
 induction suf with
 |nil=>
  intro pre hn hl _
  rw[nzx,az0 (by simp at hn;omega),azc];simp
 |cons a suf ih=>
  intro pre hn hl hg
  obtain ⟨g0,g1⟩:=hg a (by simp)
  have h:pre.length<(pre++a::suf).length:=by simp
  have ha:(pre++a::suf)[pre.length]=a:=by simp
  have hset: ∀v:azd,upd (pre++a::suf) (pre.length:Int) v=(pre++[v])++suf:=fun v=>by rw[VzM];simp
  simp only[List.length_cons] at hn hl
  have hi: ∀v:azd,bump k a=v→bzH (k,((pre++[v])++suf,(n,(((pre.length+1:Nat):Int),()))))=some ((pre++(a::suf).map (bump k),()),()):=fun v hv=>by
   have:=ih (pre++[v]) (by simp;omega) (by simp;omega) (fun b hb=>hg b (by simp [hb]))
   simp only[List.length_append,List.length_singleton] at this
   rw[this,←hv];simp
  rw[nzx,bzT (by omega),aza,azP h,aza,bzs h,ha,azq (by omega),hset,hset]
  simp only[czK,igt_d,uzV,Vzy]
  by_cases h0:0≤a.2.1
  ·by_cases h1:1000<a.2.1
   ·rw[if_pos h0,if_pos h1,az4 (by omega) (by omega),if_pos (by omega)]
    refine hi _ ?_
    have:0≤a.2.1∧1000-a.2.1<k:=by omega
    simp only[bump,this,and_self,if_true]
    rw[if_neg (by omega)]
   ·rw[if_pos h0,if_neg h1,az4 (by omega) (by omega)]
    by_cases h2:1000-a.2.1<k
    ·rw[if_pos h2]
     refine hi _ ?_
     simp only[bump,h0,h2,and_self,if_true]
     rw[if_neg (by omega)]
    ·rw[if_neg h2,azA (by omega) (by omega)]
     refine hi _ ?_
     unfold bump
     rw[if_neg (by omega),if_neg (by omega)]
     by_cases h3:a.2.1+k<1000
     ·rw[if_pos h3,if_neg (by omega)]
     ·rw[if_neg h3]
      by_cases h4:1000<a.2.1+k
      ·rw[if_pos h4]
      ·rw[if_neg h4,show a.2.1+k=1000 by omega]
  ·rw[if_neg h0,azA (by omega) (by omega)]
   refine hi _ ?_
   unfold bump
   rw[if_neg (by omega),if_neg (by omega)]
   by_cases h3:a.2.1+k<1000
   ·rw[if_pos h3,if_neg (by omega)]
   ·rw[if_neg h3]
    by_cases h4:1000<a.2.1+k
    ·rw[if_pos h4]
    ·rw[if_neg h4,show a.2.1+k=1000 by omega]
theorem JzU (k:Int) (hk0: -9223372036854775808≤k) (hk':k≤9223372036854775807) (x:azH) (hf:Fine bzY x) (hg: ∀a∈x.2.1,-9223372036854775808≤a.2.1∧a.2.1≤9223372036854775807): ∀ (m i:Nat) (acc:List azd),i+m=x.2.1.length→acc.length=i→bzp (k,(acc,((i:Int),(x,()))))=some ((acc++(x.2.1.drop i).map (bump k),()),()):=by
 have hl:x.2.1.length≤16777216:=hf.2.1.1
 intro m
 induction m with
 |zero=>
  intro i acc hi ha
  rw[nzv,show (i:Int)=(x.2.1.length:Int) by omega,az7,azc,show i=x.2.1.length by omega];simp
 |succ m ih=>
  intro i acc hi ha
  have h:i<x.2.1.length:=by omega
  have hx:=hf.2.1.2 x.2.1[i] (List.getElem_mem h)
  obtain ⟨g0,g1⟩:=hg x.2.1[i] (List.getElem_mem h)
  have hfit: ∀v:azd,fits (len acc+len (v::([]:List azd))) 4=true:=fun v=>azv (by decide) (by simp;omega)
  have hi': ∀v:azd,bump k x.2.1[i]=v→bzp (k,(acc++[v],(((i+1:Nat):Int),(x,()))))=some ((acc++(x.2.1.drop i).map (bump k),()),()):=fun v hv=>by
   rw[ih (i+1) (acc++[v]) (by omega) (by simp;omega),←hv,qzk h,List.map_cons,List.append_assoc];rfl
  rw[nzv,bzh h,aza,azP h,aza,bzs h,azq (by omega),azv (xs:=([]:List azl)) (by decide) (by have:=hx.2.2.2.1.1;simp;omega),aza]
  simp only[hfit,aza,RzX,qzN,igt_d,uzV,Vzy]
  by_cases hk:0<k
  ·rw[if_pos hk]
   by_cases h0:0<x.2.1[i].2.1
   ·rw[if_pos h0,az4 (by omega) (by omega)]
    by_cases h2:1000-x.2.1[i].2.1<k
    ·rw[if_pos h2]
     refine hi' _ ?_
     unfold bump
     rw[if_neg (by omega),if_pos (by omega)]
    ·rw[if_neg h2,azA (by omega) (by omega)]
     refine hi' _ ?_
     unfold bump
     rw[if_neg (by omega),if_neg (by omega)]
     by_cases h3:x.2.1[i].2.1+k<1000
     ·rw[if_pos h3,if_neg (by omega)]
     ·rw[if_neg h3]
      by_cases h4:1000<x.2.1[i].2.1+k
      ·rw[if_pos h4]
      ·rw[if_neg h4,show x.2.1[i].2.1+k=1000 by omega]
   ·rw[if_neg h0,azA (by omega) (by omega)]
    refine hi' _ ?_
    unfold bump
    rw[if_neg (by omega)]
    by_cases h5:0≤x.2.1[i].2.1∧1000-x.2.1[i].2.1<k
    ·rw[if_pos h5,if_pos (by omega)]
    ·rw[if_neg h5]
     by_cases h3:x.2.1[i].2.1+k<1000
     ·rw[if_pos h3,if_neg (by omega)]
     ·rw[if_neg h3]
      by_cases h4:1000<x.2.1[i].2.1+k
      ·rw[if_pos h4]
      ·rw[if_neg h4,show x.2.1[i].2.1+k=1000 by omega]
  ·rw[if_neg hk]
   refine hi' _ ?_
   unfold bump
   rw[if_pos (by omega)]
theorem Rzo {k:Int} {B:Nat} {a:azd} (h:Bnd B azu a):Bnd B azu (bump k a):=by
 unfold bump
 split
 ·exact h
 ·exact ⟨h.1,trivial,h.2.2⟩
theorem FzN {k:Int} {B:Nat} {xs:List azd} (h:Bnd B (.sl azu) xs):Bnd B (.sl azu) (xs.map (bump k)):=by
 refine ⟨by rw[List.length_map];exact h.1,fun a ha=>?_⟩
 obtain ⟨b,hb,rfl⟩:=List.mem_map.1 ha
 exact Rzo (h.2 b hb)
theorem Rz8 {k:Int} (h:k<1) (xs:List azd):xs.map (bump k)=xs:=by
 rw[show bump k=id from funext fun a=>by unfold bump;rw[if_pos h];rfl];simp
def FzI (xs:List azd):Prop:= ∀a∈xs,-9223372036854775808≤a.2.1∧a.2.1≤9223372036854775807
theorem pzc (x:azH) (k:Int) (hf:Fine bzY x) (hg:FzI x.2.1) (hk0: -9223372036854775808≤k) (hk':k≤9223372036854775807):dzn (x,(k,()))=some ((x.2.1.map (bump k),()),()):=by
 rw[zzi]
 exact JzU k hk0 hk' x hf hg x.2.1.length 0 [] (by omega) rfl
theorem pzk (x:azH) (k:Int) (hf:Fine bzY x) (hg:FzI x.2.1) (hk':k≤9223372036854775807):dzs (x,(k,()))=some ((x.2.1.map (bump k),()),()):=by
 rw[zzj,Bzm _ hf.2.1,azb,WzP,uzV]
 by_cases h:k<1
 ·rw[if_pos h,Rz8 h]
 ·rw[if_neg h]
  exact Jzk k (by omega) hk' _ x.2.1 [] (by simp [len]) (by simpa using hf.2.1.1) hg
theorem UzH {x:azH} (g:mzu bzY x):FzI x.2.1:=fun a ha=>by
 obtain ⟨i,hi⟩:=List.mem_iff_getElem?.1 ha
 exact Nzd (g.2.1.2 i a hi).2.1
end Go.Proofs.YthldgfkkgmpmlaaGreatDoor
