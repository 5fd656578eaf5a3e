/- Numbers as texts; trees of hashes. Of no condition. -/
import Derived.Test.YtdfbhjpmdjmdaaaGreatDoorKC
set_option linter.unusedVariables false
set_option linter.unusedSimpArgs false
set_option maxRecDepth 100000
namespace Go.Proofs.YtdfbhjpmdjmdaaaGreatDoor
open Go.TV
def varL:Nat→Int→List Int
 |0,x=>[azx .u8 x]
 |k+1,x=>if 127<x then azx .u8 (x % 128+128)::varL k (x/128) else [azx .u8 x]
def varV (x:Int):ByteArray:=sof (varL 9 x)
theorem Gz5: ∀k x,(varL k x).length≤k+1
 |0,x=>Nat.le_refl _
 |k+1,x=>by
  unfold varL
  split
  ·rw[List.length_cons];have:=Gz5 k (x/128);omega
  ·simp
theorem Mzg (x:Int):(varV x).size≤10:=by rw[varV,azK];exact Gz5 9 x
theorem EzH: ∀ (k:Nat) (x:Int) (l:List Int),0≤x→x<128^ (k+1)→x≤9223372036854775000→l.length+k≤100→kzk (x,(l,()))=some ((sof (l++varL k x),()),())
 |0,x,l,h0,h1,h2,hl=>by
  rw[wzd,bzy (by simp at h1;omega),azc,azv (by decide) (by simp;omega),aza];rfl
 |k+1,x,l,h0,h1,h2,hl=>by
  rw[wzd]
  unfold varL
  by_cases h:127<x
  ·rw[cze h,aza,show nz 128=true from rfl,aza,fzW h0,azH (by omega) (by omega),azv (by decide) (by simp;omega),aza,aza,tzN h0 (by omega) (by omega),if_pos h,Int.add_comm 128]
   show kzk (x/128,(l++[azx .u8 (x % 128+128)],()))=_
   rw[EzH k (x/128) _ (Int.ediv_nonneg h0 (by omega)) (Int.ediv_lt_of_lt_mul (by omega) (by rw[Int.pow_succ] at h1;exact h1)) (by omega) (by simp;omega),List.append_assoc];rfl
  ·rw[bzy (by omega),azc,azv (by decide) (by simp;omega),aza,if_neg h];rfl
theorem CzG: ∀ (k:Nat) (x:Int) (l:List Int),0≤x→x<128^ (k+1)→x≤9223372036854775000→l.length+k≤100→mzk (x,(l,()))=some ((sof (l++varL k x),()),())
 |0,x,l,h0,h1,h2,hl=>by
  rw[zzA,bzy (by simp at h1;omega),azc,azv (by decide) (by simp;omega),aza];rfl
 |k+1,x,l,h0,h1,h2,hl=>by
  rw[zzA]
  unfold varL
  by_cases h:127<x
  ·rw[cze h,aza,show nz 128=true from rfl,aza,fzW h0,azH (by omega) (by omega),azv (by decide) (by simp;omega),aza,aza,tzN h0 (by omega) (by omega),if_pos h]
   show mzk (x/128,(l++[azx .u8 (x % 128+128)],()))=_
   rw[CzG k (x/128) _ (Int.ediv_nonneg h0 (by omega)) (Int.ediv_lt_of_lt_mul (by omega) (by rw[Int.pow_succ] at h1;exact h1)) (by omega) (by simp;omega),List.append_assoc];rfl
  ·rw[bzy (by omega),azc,azv (by decide) (by simp;omega),aza,if_neg h];rfl
theorem iVar_l (x:Int) (h0:0≤x) (h1:x≤9223372036854775000):pzX (x,())=some ((varV x,()),()):=by
 rw[Jzd,EzH 9 x [] h0 (by omega) h1 (by simp)];rfl
theorem sVar_l (x:Int) (h0:0≤x) (h1:x≤9223372036854775000):szE (x,())=some ((varV x,()),()):=by
 rw[Lzt,CzG 9 x [] h0 (by omega) h1 (by simp)];rfl
def pc (n:Nat):Nat:=if n≤1 then 1 else if n≤2 then 2 else if n≤4 then 4 else if n≤8 then 8 else if n≤16 then 16 else 32
def lev (n:Nat):Nat:=if n≤1 then 0 else if n≤2 then 1 else if n≤4 then 2 else if n≤8 then 3 else if n≤16 then 4 else 5
theorem HzJ (n:Nat):pc n=2^lev n:=by unfold pc lev;repeat' split<;>try rfl
theorem Nzp (n:Nat):lev n≤5:=by unfold lev;repeat' split<;>try omega
theorem Jzk {n:Nat} (h:n≤32):n≤pc n∧1≤pc n∧pc n≤32:=by unfold pc;repeat' split<;>try omega
theorem IzO {n m:Nat} (h1:n≤m) (h2:m≤pc n) (h:n≤32):pc m=pc n:=by
 unfold pc at*;repeat' split at* <;>try omega
 all_goals (repeat' split)<;>omega
def hashes (l:List ByteArray):List ByteArray:=l.map azo++List.replicate (pc l.length-l.length) (azo (bs []))
theorem pzr (l:List ByteArray) (h:l.length≤32):(hashes l).length=2^lev l.length:=by
 have:=Jzk h
 rw[←HzJ];simp [hashes];omega
theorem rzu {l:List ByteArray}: ∀y∈hashes l,y.size=32:=by
 intro y hy
 simp only[hashes,List.mem_append,List.mem_map,List.mem_replicate] at hy
 rcases hy with ⟨x,_,rfl⟩| ⟨_,rfl⟩<;>exact azD _
def upV:List ByteArray→List ByteArray
 |a::b::r=>azo (scat a b)::upV r
 |_=>[]
theorem wzb: ∀ (l:List ByteArray),∀y∈upV l,y.size=32
 | [],y,h=>by cases h
 | [_],y,h=>by cases h
 |a::b::r,y,h=>by
  simp only[upV,List.mem_cons] at h
  rcases h with rfl|h
  ·exact azD _
  ·exact wzb r y h
theorem Czm: ∀ (k:Nat) (l:List ByteArray),l.length=2*k→(upV l).length=k
 |0,l,h=>by have:l=[]:=List.length_eq_zero_iff.1 (by omega);subst this;rfl
 |k+1,a::b::r,h=>by
  simp only[upV,List.length_cons] at h⊢
  rw[Czm k r (by omega)]
 |k+1,[],h=>by simp at h
 |k+1,[_],h=>by simp at h;omega
theorem nzl (a b:ByteArray) (ha:a.size≤1048576) (hb:b.size≤1048576):eza (a,(b,()))=some ((azo (scat a b),()),()):=by
 rw[BzP,ezs (by omega),aza,ezE _ (by rw[azu];omega),azd]
theorem mzO (a b:ByteArray) (ha:a.size≤1048576) (hb:b.size≤1048576):ezc (a,(b,()))=some ((azo (scat a b),()),()):=by
 rw[Bzb,ezs (by omega),aza,hz9 _ (by rw[azu];omega),azd]
theorem Hzn {α:Type} {xs:List α} {i:Nat} (h:i+1<xs.length):xs.drop i=xs[i]::xs[i+1]::xs.drop (i+2):=by
 rw[List.drop_eq_getElem_cons (by omega),List.drop_eq_getElem_cons h]
theorem Hzt (l:List ByteArray) (hl:l.length≤1000) (hs: ∀y∈l,y.size≤1048576): ∀ (k i:Nat) (acc:List ByteArray),i+2*k=l.length→acc.length≤i→ozu (l,(acc,((i:Int),())))=some ((acc++upV (l.drop i),()),())
 |0,i,acc,hi,ha=>by
  rw[Cz0,azH (by omega) (by omega),az7 (by rw[azA];omega),azc,List.drop_eq_nil_of_le (by omega)]
  show _=some ((acc++[],()),())
  rw[List.append_nil]
 |k+1,i,acc,hi,ha=>by
  have h1:i+1<l.length:=by omega
  have e:iadd .i64 (i:Int) 1=((i+1:Nat):Int):=azq (by omega)
  rw[Cz0,e,bzp h1,aza,az0 (by omega),aza,az0 h1,aza,bzA (by omega),bzA h1,nzl _ _ (hs _ (List.getElem_mem _)) (hs _ (List.getElem_mem _)),azd,azv (by decide) (by simp;omega),aza,
   azH (by omega) (by omega),show (i:Int)+2=((i+2:Nat):Int) by omega]
  show ozu (l,(acc++[azo (scat l[i] l[i+1])],(((i+2:Nat):Int),())))=_
  rw[Hzt l hl hs k (i+2) _ (by omega) (by simp;omega),Hzn h1,List.append_assoc]
  rfl
theorem Pz7 (l:List ByteArray) (k:Nat) (hk:l.length=2*k) (hl:l.length≤1000) (hs: ∀y∈l,y.size≤1048576):rz8 (l,())=some ((upV l,()),()):=by
 rw[NzR]
 exact Hzt l hl hs k 0 [] (by omega) (by simp)
def levs:Nat→List ByteArray→List (List ByteArray)
 |0,_=>[]
 |k+1,l=>upV l::levs k (upV l)
def top:Nat→List ByteArray→List ByteArray
 |0,l=>l
 |k+1,l=>top k (upV l)
theorem GzO (l:List ByteArray) (ls:List (List ByteArray)) (hl:l.length≤1000) (hs: ∀y∈l,y.size≤1048576) (hls:ls.length≤1000): ∀ (k i:Nat) (acc:List ByteArray),i+2*k=l.length→acc.length≤i→
 czU (l,(ls,(acc,((i:Int),()))))=bzz (acc++upV (l.drop i),(ls++[acc++upV (l.drop i)],()))
 |0,i,acc,hi,ha=>by
  rw[mzl,az7 (by rw[azA];omega),azc,azv (by decide) (by simp;omega),aza,List.drop_eq_nil_of_le (by omega)]
  show bzz (acc,(ls++[acc],()))=bzz (acc++[],(ls++[acc++[]],()))
  rw[List.append_nil]
 |k+1,i,acc,hi,ha=>by
  have h1:i+1<l.length:=by omega
  have e:iadd .i64 (i:Int) 1=((i+1:Nat):Int):=azq (by omega)
  rw[mzl,bzp (by omega),aza,az0 (by omega),aza,e,az0 h1,aza,bzA (by omega),bzA h1,mzO _ _ (hs _ (List.getElem_mem _)) (hs _ (List.getElem_mem _)),azd,azv (by decide) (by simp;omega),aza,
   azH (by omega) (by omega),show (i:Int)+2=((i+2:Nat):Int) by omega]
  show czU (l,(ls,(acc++[azo (scat l[i] l[i+1])],(((i+2:Nat):Int),()))))=_
  rw[GzO l ls hl hs hls k (i+2) _ (by omega) (by simp;omega),Hzn h1,List.append_assoc]
  rfl
theorem uz6: ∀ (k:Nat) (l:List ByteArray) (ls:List (List ByteArray)),l.length=2^k→l.length≤1000→(∀y∈l,y.size≤1048576)→ls.length+k≤1000→bzz (l,(ls,()))=some ((ls++levs k l,()),())
 |0,l,ls,hl,hb,hs,hls=>by
  rw[lzU,bzy (by rw[azA];omega),azc]
  show _=some ((ls++[],()),())
  rw[List.append_nil]
 |k+1,l,ls,hl,hb,hs,hls=>by
  rw[Nat.pow_succ] at hl
  have hp:1≤2^k:=Nat.one_le_two_pow
  rw[lzU,cze (by rw[azA];omega),aza]
  refine (GzO l ls hb hs (by omega) (2^k) 0 [] (by omega) (by simp)).trans ?_
  have hu:=Czm (2^k) l (by omega)
  rw[List.nil_append,List.drop_zero,uz6 k (upV l) _ hu (by omega) (fun y hy=>by rw[wzb l y hy];omega) (by simp;omega),List.append_assoc]
  rfl
theorem szU {l:List ByteArray} {x:ByteArray} (h:l.length≤1000):fits (len l+len (x::([]:List ByteArray))) 1=true:=azv (by decide) (by simp;omega)
theorem Kz2 (xs:List ByteArray) (hl:xs.length≤1000) (hs: ∀y∈xs,y.size≤268435456):dzh ([],(xs,(len xs,(0,()))))=bzG (xs.map azo,()):=by
 refine (bz8 (D:=dzh) (st:=fun i (_:Unit)=>((xs.take i).map azo,(xs,(len xs,((i:Int),()))))) (n:=xs.length) (P:=fun _=>True) (step:=fun _ u=>u) (fun i _ hi _=>by
  refine ⟨?_,trivial⟩
  rw[nzH,bzp hi,aza,az0 hi,aza,bzA hi,hz9 _ (hs _ (List.getElem_mem _)),azd,szU (by simp;omega),aza,azq (by omega),List.take_succ_eq_append_getElem hi,List.map_append]
  rfl) xs.length 0 () (by omega) trivial).1.trans ?_
 rw[nzH,bzb,azc,List.take_length]
theorem Nza:yzI 33 (fun m=>(bif ieq (m:Int) 0 then true else ine (iand .i64 (m:Int) (isub .i64 (m:Int) 1)) 0)==!(m==pc m))=true:=by kernel_rfl
theorem Dzz: ∀ (k:Nat) (l:List ByteArray),l.length+k=pc l.length→l.length≤32→bzG (l,())=bzz (l++List.replicate k (azo (bs [])),([l++List.replicate k (azo (bs []))],()))
 |0,l,hk,hl=>by
  have h:=gzj _ _ Nza l.length (by omega)
  rw[show (l.length==pc l.length)=true from by rw[beq_iff_eq];omega] at h
  rw[nzN,azA,List.replicate_zero,List.append_nil]
  cases h1:ieq (l.length:Int) 0<;>rw[h1] at h
  ·simp only[cond_false,Bool.not_true] at h
   rw[eq_of_beq h,azc,azc]
  ·cases h
 |k+1,l,hk,hl=>by
  have h:=gzj _ _ Nza l.length (by omega)
  rw[show (l.length==pc l.length)=false from by rw[beq_eq_false_iff_ne];omega] at h
  have hpc:pc (l.length+1)=pc l.length:=IzO (by omega) (by omega) hl
  have hge:=Jzk hl
  have st:bzG (l,())=bzG (l++[azo (bs [])],()):=by
   rw[nzN,hz9 _ (by rw[gzq];simp),azd,szU (by omega),aza]
   cases h1:ieq (len l) 0
   ·rw[azA] at h1
    rw[h1] at h
    simp only[cond_false,Bool.not_false] at h
    rw[azc,azA,eq_of_beq h,aza];rfl
   ·rw[aza];rfl
  rw[st,Dzz k (l++[azo (bs [])]) (by simp;omega) (by simp;omega),List.append_assoc]
  rfl
theorem Kz5 (xs:List ByteArray) (hl:xs.length≤32) (hs: ∀y∈xs,y.size≤268435456):dzT (xs,())=some ((hashes xs::levs (lev xs.length) (hashes xs),()),()):=by
 have hge:=Jzk hl
 have hh:=pzr xs hl
 have hp:=HzJ xs.length
 rw[yzm,Kz2 xs (by omega) hs,Dzz (pc xs.length-xs.length) _ (by simp;omega) (by simp;omega)]
 exact uz6 _ (hashes xs) [hashes xs] hh (by omega) (fun y hy=>by rw[rzu y hy];omega) (by have:=Nzp xs.length;simp;omega)
theorem Fz1: ∀ (k:Nat) (l:List ByteArray),l.length=2^k→(top k l).length=1
 |0,l,h=>h
 |k+1,l,h=>Fz1 k (upV l) (Czm _ l (by rw[Nat.pow_succ] at h;omega))
theorem EzN: ∀ (k:Nat) (l:List ByteArray),(l::levs k l).getLast (by simp)=top k l
 |0,l=>rfl
 |k+1,l=>by
  show (l::upV l::levs k (upV l)).getLast _=top k (upV l)
  rw[List.getLast_cons (by simp)]
  exact EzN k (upV l)
theorem GzG: ∀ (k:Nat) (l:List ByteArray),(levs k l).length=k
 |0,l=>rfl
 |k+1,l=>by rw[levs,List.length_cons,GzG k]
def vzN (xs:List ByteArray):ByteArray:=if xs.length≤32 then rd (bs []) (top (lev xs.length) (hashes xs)) 0 else bs []
theorem wzH (xs:List ByteArray) (hs: ∀y∈xs,y.size≤268435456) (hb:xs.length≤16777216):lz1 (xs,())=some ((vzN xs,()),()):=by
 unfold vzN
 rw[JzW]
 by_cases hl:xs.length≤32
 ·rw[if_pos hl,bzy (by rw[azA];omega),azc,Kz5 xs hl hs,azd]
  generalize hL:hashes xs::levs (lev xs.length) (hashes xs)=L
  have hll:L.length=lev xs.length+1:=by rw[←hL,List.length_cons,GzG]
  have h5:=Nzp xs.length
  have e1:isub .i64 (len L) 1=((L.length-1:Nat):Int):=by rw[azA,bzi (by omega) (by omega)];omega
  have e2:rd ([]:List ByteArray) L ((L.length-1:Nat):Int)=top (lev xs.length) (hashes xs):=by
   rw[bzA (by omega),←EzN]
   subst hL
   rw[List.getLast_eq_getElem]
  have e3:=Fz1 _ _ (pzr xs hl)
  simp only[e1,e2]
  rw[az0 (by omega),aza,bzI (by omega) (by rw[azA];omega),aza]
 ·rw[if_neg hl,cze (by rw[azA];omega),aza]
theorem fzE (x k:Nat) (hk:k≤5):izi ((x:Int),((k:Int),()))=if 2^k<x then izi ((x:Int),(((k+1:Nat):Int),())) else some (((k:Int),()),()):=by
 have e: ∀k:Nat,k<6→(decide (azx .u64 (k:Int)=(k:Int))&&decide (ishl .i64 1 (k:Int)=((2^k:Nat):Int)))=true:=gzj 6 (fun k=>decide (azx .u64 (k:Int)=(k:Int))&&decide (ishl .i64 1 (k:Int)=((2^k:Nat):Int))) (by kernel_rfl)
 have:=e k (by omega)
 simp only[Bool.and_eq_true,decide_eq_true_eq] at this
 rw[Dzj,this.1,nn_d,decide_eq_true (by omega),aza,this.2,azq (by omega)]
 by_cases h:2^k<x
 ·rw[bzW (by omega),aza,if_pos h]
 ·rw[az7 (by omega),azc,if_neg h]
theorem Mzp (x:Nat) (hx:x≤32):jzy ((x:Int),())=some ((((lev x:Nat):Int),()),()):=by
 rw[EzX,tzD,azd]
 have h0:decide ((0:Int)≤(x:Int)∧(x:Int)≤32)=true:=decide_eq_true (by omega)
 simp only[h0,bnot,Bool.not_true,azc]
 refine (fzE x 0 (by omega)).trans ?_
 unfold lev
 split
 ·rw[fzE x 1 (by omega)]
  split
  ·rw[fzE x 2 (by omega)]
   split
   ·rw[fzE x 3 (by omega)]
    split
    ·rw[fzE x 4 (by omega)]
     split
     ·rw[fzE x 5 (by omega),if_neg (by omega),if_neg (by omega),if_neg (by omega),if_neg (by omega),if_neg (by omega),if_neg (by omega)]
     ·rw[if_neg (by omega),if_neg (by omega),if_neg (by omega),if_neg (by omega),if_pos (by omega)]
    ·rw[if_neg (by omega),if_neg (by omega),if_neg (by omega),if_pos (by omega)]
   ·rw[if_neg (by omega),if_neg (by omega),if_pos (by omega)]
  ·rw[if_neg (by omega),if_pos (by omega)]
 ·rw[if_pos (by omega)]
theorem Cz1 (xs:List ByteArray) (hx:xs.length≤32): ∀ (k:Nat) (l:List ByteArray),l.length+k=pc xs.length→fzO (xs,(l,(azo (bs []),())))=some ((l++List.replicate k (azo (bs [])),()),())
 |k,l,hk=>by
  have hge:=Jzk hx
  have h5:=Nzp xs.length
  have e: ∀k:Nat,k<6→(decide (azx .u64 (k:Int)=(k:Int))&&decide (ishl .i64 1 (k:Int)=((2^k:Nat):Int)))=true:=gzj 6 (fun k=>decide (azx .u64 (k:Int)=(k:Int))&&decide (ishl .i64 1 (k:Int)=((2^k:Nat):Int))) (by kernel_rfl)
  have:=e (lev xs.length) (by omega)
  simp only[Bool.and_eq_true,decide_eq_true_eq] at this
  have e1:jzy (len xs,())=some ((((lev xs.length:Nat):Int),()),()):=by rw[azA];exact Mzp _ hx
  rw[Az4,e1,azd]
  simp only[this.1,this.2]
  rw[nn_d,decide_eq_true (by omega),aza,←HzJ]
  match k,hk with
  |0,hk=>rw[az7 (by rw[azA];omega),azc,List.replicate_zero,List.append_nil]
  |k+1,hk=>
   rw[bzW (by rw[azA];omega),aza,szU (by omega),aza]
   show fzO (xs,(l++[azo (bs [])],(azo (bs []),())))=_
   rw[Cz1 xs hx k (l++[azo (bs [])]) (by simp;omega),List.append_assoc]
   rfl
theorem Eze (xs:List ByteArray) (hx:xs.length≤32) (hs: ∀y∈xs,y.size≤268435456):hzG (xs,())=some ((hashes xs,()),()):=by
 have hge:=Jzk hx
 rw[Dzh]
 refine (bz8 (D:=izI) (st:=fun i (_:Unit)=>(xs,((xs.take i).map azo,((i:Int),())))) (n:=xs.length) (P:=fun _=>True) (step:=fun _ u=>u) (fun i _ hi _=>by
  refine ⟨?_,trivial⟩
  rw[rzP,bzp hi,aza,az0 hi,aza,bzA hi,ezE _ (hs _ (List.getElem_mem _)),azd,szU (by simp;omega),aza,azq (by omega),List.take_succ_eq_append_getElem hi,List.map_append]
  rfl) xs.length 0 () (by omega) trivial).1.trans ?_
 rw[rzP,bzb,azc,List.take_length,ezE _ (by rw[gzq];simp),azd,Cz1 xs hx (pc xs.length-xs.length) _ (by simp;omega)]
 rfl
theorem Aza: ∀ (k:Nat) (l:List ByteArray),l.length=2^k→l.length≤1000→(∀y∈l,y.size≤1048576)→pzy (l,())=some ((rd (bs []) (top k l) 0,()),())
 |0,l,hl,hb,hs=>by
  rw[zzf,bzy (by rw[azA];omega),azc,bzI (by omega) (by rw[azA];omega),aza];rfl
 |k+1,l,hl,hb,hs=>by
  rw[Nat.pow_succ] at hl
  have hp:1≤2^k:=Nat.one_le_two_pow
  rw[zzf,cze (by rw[azA];omega),aza,Pz7 l (2^k) (by omega) hb hs,azd]
  have hu:=Czm (2^k) l (by omega)
  exact Aza k (upV l) hu (by omega) (fun y hy=>by rw[wzb l y hy];omega)
theorem xzh (xs:List ByteArray) (hs: ∀y∈xs,y.size≤268435456) (hb:xs.length≤16777216):lzs (xs,())=some ((vzN xs,()),()):=by
 unfold vzN
 rw[Lzd]
 by_cases hl:xs.length≤32
 ·have hh:=pzr xs hl
  have hge:=Jzk hl
  have hp:=HzJ xs.length
  rw[if_pos hl,bzy (by rw[azA];omega),azc,Eze xs hl hs,azd]
  exact Aza _ (hashes xs) hh (by omega) fun y hy=>by rw[rzu y hy];omega
 ·rw[if_neg hl,cze (by rw[azA];omega),aza]
def cz4 (h:czD):ByteArray:=bif ozj h then vzN [varV h.1,h.2.1,h.2.2.1,h.2.2.2.1] else bs []
theorem tzM {h:czD} (e:ozj h=true):0≤h.1∧h.1≤10000∧h.2.1.size=32∧h.2.2.1.size=32∧h.2.2.2.1.size=32:=by
 simp only[ozj,Bool.and_eq_true,decide_eq_true_eq] at e
 exact ⟨e.1.1,e.1.2,e.2.1,e.2.2.1,e.2.2.2⟩
theorem zzv {h:czD} (e:ozj h=true): ∀y∈[varV h.1,h.2.1,h.2.2.1,h.2.2.2.1],y.size≤268435456:=by
 obtain ⟨h0,h1,h2,h3,h4⟩:=tzM e
 have:=Mzg h.1
 intro y hy
 simp only[List.mem_cons,List.not_mem_nil,or_false] at hy
 rcases hy with rfl|rfl|rfl|rfl<;>omega
theorem xzN (h:czD):mzK (h,())=some ((cz4 h,()),()):=by
 unfold cz4
 rw[Gzv,KzT,azd]
 cases e:ozj h
 ·rfl
 ·obtain ⟨h0,h1,_⟩:=tzM e
  rw[show bnot true=false from rfl,azc,iVar_l _ h0 (by omega),azd,wzH _ (zzv e) (by simp),azd]
  rfl
theorem FzA (h:czD):mzD (h,())=some ((cz4 h,()),()):=by
 unfold cz4
 rw[Fz9,Mzh,azd]
 cases e:ozj h
 ·rfl
 ·obtain ⟨h0,h1,_⟩:=tzM e
  rw[show bnot true=false from rfl,azc,sVar_l _ h0 (by omega),azd,xzh _ (zzv e) (by simp),azd]
  rfl
theorem zzV (xs:List ByteArray):(vzN xs).size≤32:=by
 unfold vzN
 split
 ·rename_i hl
  have h1:=Fz1 _ _ (pzr xs hl)
  have hsz: ∀ (k:Nat) (l:List ByteArray),(∀y∈l,y.size=32)→ ∀y∈top k l,y.size=32:=by
   intro k
   induction k with
   |zero=>intro l h;exact h
   |succ k ih=>intro l h;exact ih (upV l) (wzb l)
  have h0:0<(top (lev xs.length) (hashes xs)).length:=by omega
  have:=hsz (lev xs.length) (hashes xs) rzu _ (List.getElem_mem h0)
  have e:rd (bs []) (top (lev xs.length) (hashes xs)) 0=(top (lev xs.length) (hashes xs))[0]:=bzA (i:=0) h0
  rw[e,this];exact Nat.le_refl _
 ·rw[gzq];exact Nat.zero_le _
end Go.Proofs.YtdfbhjpmdjmdaaaGreatDoor
