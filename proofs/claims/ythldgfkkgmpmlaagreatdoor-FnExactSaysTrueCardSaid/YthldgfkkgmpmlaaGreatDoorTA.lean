/- Numbers as texts; trees of hashes. Of no condition. -/
import Derived.Test.YthldgfkkgmpmlaaGreatDoorKC
set_option linter.unusedVariables false
set_option linter.unusedSimpArgs false
set_option maxRecDepth 100000
namespace Go.Proofs.YthldgfkkgmpmlaaGreatDoor
open Go.TV
def varL:Nat→Int→List Int
 |0,x=>[azx .u8 x]
 |k+1,x=>if 127<x then azx .u8 (x % 128+128)::varL k (x/128) else [azx .u8 x]
def varV (x:Int):ByteArray:=sof (varL 9 x)
theorem Nzx: ∀k x,(varL k x).length≤k+1
 |0,x=>Nat.le_refl _
 |k+1,x=>by
  unfold varL
  split
  ·rw[List.length_cons];have:=Nzx k (x/128);omega
  ·simp
theorem QzV (x:Int):(varV x).size≤10:=by rw[varV,azI];exact Nzx 9 x
theorem IzR: ∀ (k:Nat) (x:Int) (l:List Int),0≤x→x<128^ (k+1)→x≤9223372036854775000→l.length+k≤100→kzl (x,(l,()))=some ((sof (l++varL k x),()),())
 |0,x,l,h0,h1,h2,hl=>by
  rw[Bzp,bzi (by simp at h1;omega),azc,azv (by decide) (by simp;omega),aza];rfl
 |k+1,x,l,h0,h1,h2,hl=>by
  rw[Bzp]
  unfold varL
  by_cases h:127<x
  ·rw[bzU h,aza,show nz 128=true from rfl,aza,izS h0,azA (by omega) (by omega),azv (by decide) (by simp;omega),aza,aza,nzM h0 (by omega) (by omega),if_pos h,Int.add_comm 128]
   show kzl (x/128,(l++[azx .u8 (x % 128+128)],()))=_
   rw[IzR k (x/128) _ (Int.ediv_nonneg h0 (by omega)) (Int.ediv_lt_of_lt_mul (by omega) (by rw[Int.pow_succ] at h1;exact h1)) (by omega) (by simp;omega),List.append_assoc];rfl
  ·rw[bzi (by omega),azc,azv (by decide) (by simp;omega),aza,if_neg h];rfl
theorem Izf: ∀ (k:Nat) (x:Int) (l:List Int),0≤x→x<128^ (k+1)→x≤9223372036854775000→l.length+k≤100→mz2 (x,(l,()))=some ((sof (l++varL k x),()),())
 |0,x,l,h0,h1,h2,hl=>by
  rw[EzU,bzi (by simp at h1;omega),azc,azv (by decide) (by simp;omega),aza];rfl
 |k+1,x,l,h0,h1,h2,hl=>by
  rw[EzU]
  unfold varL
  by_cases h:127<x
  ·rw[bzU h,aza,show nz 128=true from rfl,aza,izS h0,azA (by omega) (by omega),azv (by decide) (by simp;omega),aza,aza,nzM h0 (by omega) (by omega),if_pos h]
   show mz2 (x/128,(l++[azx .u8 (x % 128+128)],()))=_
   rw[Izf k (x/128) _ (Int.ediv_nonneg h0 (by omega)) (Int.ediv_lt_of_lt_mul (by omega) (by rw[Int.pow_succ] at h1;exact h1)) (by omega) (by simp;omega),List.append_assoc];rfl
  ·rw[bzi (by omega),azc,azv (by decide) (by simp;omega),aza,if_neg h];rfl
theorem iVar_l (x:Int) (h0:0≤x) (h1:x≤9223372036854775000):rzz (x,())=some ((varV x,()),()):=by
 rw[Pzx,IzR 9 x [] h0 (by omega) h1 (by simp)];rfl
theorem sVar_l (x:Int) (h0:0≤x) (h1:x≤9223372036854775000):vzf (x,())=some ((varV x,()),()):=by
 rw[Tzk,Izf 9 x [] h0 (by omega) h1 (by simp)];rfl
def pc (n:Nat):Nat:=if n≤1 then 1 else if n≤2 then 2 else if n≤4 then 4 else if n≤8 then 8 else if n≤16 then 16 else 32
def lev (n:Nat):Nat:=if n≤1 then 0 else if n≤2 then 1 else if n≤4 then 2 else if n≤8 then 3 else if n≤16 then 4 else 5
theorem NzR (n:Nat):pc n=2^lev n:=by unfold pc lev;repeat' split<;>try rfl
theorem Rzp (n:Nat):lev n≤5:=by unfold lev;repeat' split<;>try omega
theorem Ozf {n:Nat} (h:n≤32):n≤pc n∧1≤pc n∧pc n≤32:=by unfold pc;repeat' split<;>try omega
theorem OzD {n m:Nat} (h1:n≤m) (h2:m≤pc n) (h:n≤32):pc m=pc n:=by
 unfold pc at*;repeat' split at* <;>try omega
 all_goals (repeat' split)<;>omega
def hashes (l:List ByteArray):List ByteArray:=l.map azm++List.replicate (pc l.length-l.length) (azm (bs []))
theorem qz6 (l:List ByteArray) (h:l.length≤32):(hashes l).length=2^lev l.length:=by
 have:=Ozf h
 rw[←NzR];simp [hashes];omega
theorem tzE {l:List ByteArray}: ∀y∈hashes l,y.size=32:=by
 intro y hy
 simp only[hashes,List.mem_append,List.mem_map,List.mem_replicate] at hy
 rcases hy with ⟨x,_,rfl⟩| ⟨_,rfl⟩<;>exact azE _
def upV:List ByteArray→List ByteArray
 |a::b::r=>azm (scat a b)::upV r
 |_=>[]
theorem zzx: ∀ (l:List ByteArray),∀y∈upV l,y.size=32
 | [],y,h=>by cases h
 | [_],y,h=>by cases h
 |a::b::r,y,h=>by
  simp only[upV,List.mem_cons] at h
  rcases h with rfl|h
  ·exact azE _
  ·exact zzx r y h
theorem Gzu: ∀ (k:Nat) (l:List ByteArray),l.length=2*k→(upV l).length=k
 |0,l,h=>by have:l=[]:=List.length_eq_zero_iff.1 (by omega);subst this;rfl
 |k+1,a::b::r,h=>by
  simp only[upV,List.length_cons] at h⊢
  rw[Gzu k r (by omega)]
 |k+1,[],h=>by simp at h
 |k+1,[_],h=>by simp at h;omega
theorem ozP (a b:ByteArray) (ha:a.size≤1048576) (hb:b.size≤1048576):ezD (a,(b,()))=some ((azm (scat a b),()),()):=by
 rw[FzJ,ezn (by omega),aza,bzO _ (by rw[azw];omega),azb]
theorem nzT (a b:ByteArray) (ha:a.size≤1048576) (hb:b.size≤1048576):ezC (a,(b,()))=some ((azm (scat a b),()),()):=by
 rw[GzL,ezn (by omega),aza,czR _ (by rw[azw];omega),azb]
theorem Nzz {α:Type} {xs:List α} {i:Nat} (h:i+1<xs.length):xs.drop i=xs[i]::xs[i+1]::xs.drop (i+2):=by
 rw[List.drop_eq_getElem_cons (by omega),List.drop_eq_getElem_cons h]
theorem Nzv (l:List ByteArray) (hl:l.length≤1000) (hs: ∀y∈l,y.size≤1048576): ∀ (k i:Nat) (acc:List ByteArray),i+2*k=l.length→acc.length≤i→qzW (l,(acc,((i:Int),())))=some ((acc++upV (l.drop i),()),())
 |0,i,acc,hi,ha=>by
  rw[JzS,azA (by omega) (by omega),az0 (by rw[azz];omega),azc,List.drop_eq_nil_of_le (by omega)]
  show _=some ((acc++[],()),())
  rw[List.append_nil]
 |k+1,i,acc,hi,ha=>by
  have h1:i+1<l.length:=by omega
  have e:iadd .i64 (i:Int) 1=((i+1:Nat):Int):=azq (by omega)
  rw[JzS,e,bzh h1,aza,azP (by omega),aza,azP h1,aza,bzs (by omega),bzs h1,ozP _ _ (hs _ (List.getElem_mem _)) (hs _ (List.getElem_mem _)),azb,azv (by decide) (by simp;omega),aza,
   azA (by omega) (by omega),show (i:Int)+2=((i+2:Nat):Int) by omega]
  show qzW (l,(acc++[azm (scat l[i] l[i+1])],(((i+2:Nat):Int),())))=_
  rw[Nzv l hl hs k (i+2) _ (by omega) (by simp;omega),Nzz h1,List.append_assoc]
  rfl
theorem Wzx (l:List ByteArray) (k:Nat) (hk:l.length=2*k) (hl:l.length≤1000) (hs: ∀y∈l,y.size≤1048576):uz5 (l,())=some ((upV l,()),()):=by
 rw[Uz2]
 exact Nzv l hl hs k 0 [] (by omega) (by simp)
def levs:Nat→List ByteArray→List (List ByteArray)
 |0,_=>[]
 |k+1,l=>upV l::levs k (upV l)
def top:Nat→List ByteArray→List ByteArray
 |0,l=>l
 |k+1,l=>top k (upV l)
theorem NzB (l:List ByteArray) (ls:List (List ByteArray)) (hl:l.length≤1000) (hs: ∀y∈l,y.size≤1048576) (hls:ls.length≤1000): ∀ (k i:Nat) (acc:List ByteArray),i+2*k=l.length→acc.length≤i→
 czQ (l,(ls,(acc,((i:Int),()))))=bzq (acc++upV (l.drop i),(ls++[acc++upV (l.drop i)],()))
 |0,i,acc,hi,ha=>by
  rw[nzA,az0 (by rw[azz];omega),azc,azv (by decide) (by simp;omega),aza,List.drop_eq_nil_of_le (by omega)]
  show bzq (acc,(ls++[acc],()))=bzq (acc++[],(ls++[acc++[]],()))
  rw[List.append_nil]
 |k+1,i,acc,hi,ha=>by
  have h1:i+1<l.length:=by omega
  have e:iadd .i64 (i:Int) 1=((i+1:Nat):Int):=azq (by omega)
  rw[nzA,bzh (by omega),aza,azP (by omega),aza,e,azP h1,aza,bzs (by omega),bzs h1,nzT _ _ (hs _ (List.getElem_mem _)) (hs _ (List.getElem_mem _)),azb,azv (by decide) (by simp;omega),aza,
   azA (by omega) (by omega),show (i:Int)+2=((i+2:Nat):Int) by omega]
  show czQ (l,(ls,(acc++[azm (scat l[i] l[i+1])],(((i+2:Nat):Int),()))))=_
  rw[NzB l ls hl hs hls k (i+2) _ (by omega) (by simp;omega),Nzz h1,List.append_assoc]
  rfl
theorem yz0: ∀ (k:Nat) (l:List ByteArray) (ls:List (List ByteArray)),l.length=2^k→l.length≤1000→(∀y∈l,y.size≤1048576)→ls.length+k≤1000→bzq (l,(ls,()))=some ((ls++levs k l,()),())
 |0,l,ls,hl,hb,hs,hls=>by
  rw[nzc,bzi (by rw[azz];omega),azc]
  show _=some ((ls++[],()),())
  rw[List.append_nil]
 |k+1,l,ls,hl,hb,hs,hls=>by
  rw[Nat.pow_succ] at hl
  have hp:1≤2^k:=Nat.one_le_two_pow
  rw[nzc,bzU (by rw[azz];omega),aza]
  refine (NzB l ls hb hs (by omega) (2^k) 0 [] (by omega) (by simp)).trans ?_
  have hu:=Gzu (2^k) l (by omega)
  rw[List.nil_append,List.drop_zero,yz0 k (upV l) _ hu (by omega) (fun y hy=>by rw[zzx l y hy];omega) (by simp;omega),List.append_assoc]
  rfl
theorem uzJ {l:List ByteArray} {x:ByteArray} (h:l.length≤1000):fits (len l+len (x::([]:List ByteArray))) 1=true:=azv (by decide) (by simp;omega)
theorem Szc (xs:List ByteArray) (hl:xs.length≤1000) (hs: ∀y∈xs,y.size≤268435456):dzi ([],(xs,(len xs,(0,()))))=bzy (xs.map azm,()):=by
 refine (bz4 (D:=dzi) (st:=fun i (_:Unit)=>((xs.take i).map azm,(xs,(len xs,((i:Int),()))))) (n:=xs.length) (P:=fun _=>True) (step:=fun _ u=>u) (fun i _ hi _=>by
  refine ⟨?_,trivial⟩
  rw[pzs,bzh hi,aza,azP hi,aza,bzs hi,czR _ (hs _ (List.getElem_mem _)),azb,uzJ (by simp;omega),aza,azq (by omega),List.take_succ_eq_append_getElem hi,List.map_append]
  rfl) xs.length 0 () (by omega) trivial).1.trans ?_
 rw[pzs,az7,azc,List.take_length]
theorem Szn:AzI 33 (fun m=>(bif ieq (m:Int) 0 then true else ine (iand .i64 (m:Int) (isub .i64 (m:Int) 1)) 0)==!(m==pc m))=true:=by kernel_rfl
theorem Kzg: ∀ (k:Nat) (l:List ByteArray),l.length+k=pc l.length→l.length≤32→bzy (l,())=bzq (l++List.replicate k (azm (bs [])),([l++List.replicate k (azm (bs []))],()))
 |0,l,hk,hl=>by
  have h:=fzh _ _ Szn l.length (by omega)
  rw[show (l.length==pc l.length)=true from by rw[beq_iff_eq];omega] at h
  rw[pzw,azz,List.replicate_zero,List.append_nil]
  cases h1:ieq (l.length:Int) 0<;>rw[h1] at h
  ·simp only[cond_false,Bool.not_true] at h
   rw[eq_of_beq h,azc,azc]
  ·cases h
 |k+1,l,hk,hl=>by
  have h:=fzh _ _ Szn l.length (by omega)
  rw[show (l.length==pc l.length)=false from by rw[beq_eq_false_iff_ne];omega] at h
  have hpc:pc (l.length+1)=pc l.length:=OzD (by omega) (by omega) hl
  have hge:=Ozf hl
  have st:bzy (l,())=bzy (l++[azm (bs [])],()):=by
   rw[pzw,czR _ (by rw[mzr];simp),azb,uzJ (by omega),aza]
   cases h1:ieq (len l) 0
   ·rw[azz] at h1
    rw[h1] at h
    simp only[cond_false,Bool.not_false] at h
    rw[azc,azz,eq_of_beq h,aza];rfl
   ·rw[aza];rfl
  rw[st,Kzg k (l++[azm (bs [])]) (by simp;omega) (by simp;omega),List.append_assoc]
  rfl
theorem Sz1 (xs:List ByteArray) (hl:xs.length≤32) (hs: ∀y∈xs,y.size≤268435456):dzU (xs,())=some ((hashes xs::levs (lev xs.length) (hashes xs),()),()):=by
 have hge:=Ozf hl
 have hh:=qz6 xs hl
 have hp:=NzR xs.length
 rw[Azj,Szc xs (by omega) hs,Kzg (pc xs.length-xs.length) _ (by simp;omega) (by simp;omega)]
 exact yz0 _ (hashes xs) [hashes xs] hh (by omega) (fun y hy=>by rw[tzE y hy];omega) (by have:=Rzp xs.length;simp;omega)
theorem Mzn: ∀ (k:Nat) (l:List ByteArray),l.length=2^k→(top k l).length=1
 |0,l,h=>h
 |k+1,l,h=>Mzn k (upV l) (Gzu _ l (by rw[Nat.pow_succ] at h;omega))
theorem Izi: ∀ (k:Nat) (l:List ByteArray),(l::levs k l).getLast (by simp)=top k l
 |0,l=>rfl
 |k+1,l=>by
  show (l::upV l::levs k (upV l)).getLast _=top k (upV l)
  rw[List.getLast_cons (by simp)]
  exact Izi k (upV l)
theorem MzG: ∀ (k:Nat) (l:List ByteArray),(levs k l).length=k
 |0,l=>rfl
 |k+1,l=>by rw[levs,List.length_cons,MzG k]
def szu (xs:List ByteArray):ByteArray:=if xs.length≤32 then rd (bs []) (top (lev xs.length) (hashes xs)) 0 else bs []
theorem Czd (xs:List ByteArray) (hs: ∀y∈xs,y.size≤268435456) (hb:xs.length≤16777216):nzm (xs,())=some ((szu xs,()),()):=by
 unfold szu
 rw[Qzt]
 by_cases hl:xs.length≤32
 ·rw[if_pos hl,bzi (by rw[azz];omega),azc,Sz1 xs hl hs,azb]
  generalize hL:hashes xs::levs (lev xs.length) (hashes xs)=L
  have hll:L.length=lev xs.length+1:=by rw[←hL,List.length_cons,MzG]
  have h5:=Rzp xs.length
  have e1:isub .i64 (len L) 1=((L.length-1:Nat):Int):=by rw[azz,az4 (by omega) (by omega)];omega
  have e2:rd ([]:List ByteArray) L ((L.length-1:Nat):Int)=top (lev xs.length) (hashes xs):=by
   rw[bzs (by omega),←Izi]
   subst hL
   rw[List.getLast_eq_getElem]
  have e3:=Mzn _ _ (qz6 xs hl)
  simp only[e1,e2]
  rw[azP (by omega),aza,bz0 (by omega) (by rw[azz];omega),aza]
 ·rw[if_neg hl,bzU (by rw[azz];omega),aza]
theorem fzN (x k:Nat) (hk:k≤5):izv ((x:Int),((k:Int),()))=if 2^k<x then izv ((x:Int),(((k+1:Nat):Int),())) else some (((k:Int),()),()):=by
 have e: ∀k:Nat,k<6→(decide (azx .u64 (k:Int)=(k:Int))&&decide (ishl .i64 1 (k:Int)=((2^k:Nat):Int)))=true:=fzh 6 (fun k=>decide (azx .u64 (k:Int)=(k:Int))&&decide (ishl .i64 1 (k:Int)=((2^k:Nat):Int))) (by kernel_rfl)
 have:=e k (by omega)
 simp only[Bool.and_eq_true,decide_eq_true_eq] at this
 rw[Jz0,this.1,nn_d,decide_eq_true (by omega),aza,this.2,azq (by omega)]
 by_cases h:2^k<x
 ·rw[bzT (by omega),aza,if_pos h]
 ·rw[az0 (by omega),azc,if_neg h]
theorem Sz5 (x:Nat) (hx:x≤32):kzv ((x:Int),())=some ((((lev x:Nat):Int),()),()):=by
 rw[Kzo,tzP,azb]
 have h0:decide ((0:Int)≤(x:Int)∧(x:Int)≤32)=true:=decide_eq_true (by omega)
 simp only[h0,bnot,Bool.not_true,azc]
 refine (fzN x 0 (by omega)).trans ?_
 unfold lev
 split
 ·rw[fzN x 1 (by omega)]
  split
  ·rw[fzN x 2 (by omega)]
   split
   ·rw[fzN x 3 (by omega)]
    split
    ·rw[fzN x 4 (by omega)]
     split
     ·rw[fzN x 5 (by omega),if_neg (by omega),if_neg (by omega),if_neg (by omega),if_neg (by omega),if_neg (by omega),if_neg (by omega)]
     ·rw[if_neg (by omega),if_neg (by omega),if_neg (by omega),if_neg (by omega),if_pos (by omega)]
    ·rw[if_neg (by omega),if_neg (by omega),if_neg (by omega),if_pos (by omega)]
   ·rw[if_neg (by omega),if_neg (by omega),if_pos (by omega)]
  ·rw[if_neg (by omega),if_pos (by omega)]
 ·rw[if_pos (by omega)]
theorem Hzl (xs:List ByteArray) (hx:xs.length≤32): ∀ (k:Nat) (l:List ByteArray),l.length+k=pc xs.length→gzK (xs,(l,(azm (bs []),())))=some ((l++List.replicate k (azm (bs [])),()),())
 |k,l,hk=>by
  have hge:=Ozf hx
  have h5:=Rzp xs.length
  have e: ∀k:Nat,k<6→(decide (azx .u64 (k:Int)=(k:Int))&&decide (ishl .i64 1 (k:Int)=((2^k:Nat):Int)))=true:=fzh 6 (fun k=>decide (azx .u64 (k:Int)=(k:Int))&&decide (ishl .i64 1 (k:Int)=((2^k:Nat):Int))) (by kernel_rfl)
  have:=e (lev xs.length) (by omega)
  simp only[Bool.and_eq_true,decide_eq_true_eq] at this
  have e1:kzv (len xs,())=some ((((lev xs.length:Nat):Int),()),()):=by rw[azz];exact Sz5 _ hx
  rw[Gz5,e1,azb]
  simp only[this.1,this.2]
  rw[nn_d,decide_eq_true (by omega),aza,←NzR]
  match k,hk with
  |0,hk=>rw[az0 (by rw[azz];omega),azc,List.replicate_zero,List.append_nil]
  |k+1,hk=>
   rw[bzT (by rw[azz];omega),aza,uzJ (by omega),aza]
   show gzK (xs,(l++[azm (bs [])],(azm (bs []),())))=_
   rw[Hzl xs hx k (l++[azm (bs [])]) (by simp;omega),List.append_assoc]
   rfl
theorem Hz8 (xs:List ByteArray) (hx:xs.length≤32) (hs: ∀y∈xs,y.size≤268435456):izP (xs,())=some ((hashes xs,()),()):=by
 have hge:=Ozf hx
 rw[Hzv]
 refine (bz4 (D:=jzB) (st:=fun i (_:Unit)=>(xs,((xs.take i).map azm,((i:Int),())))) (n:=xs.length) (P:=fun _=>True) (step:=fun _ u=>u) (fun i _ hi _=>by
  refine ⟨?_,trivial⟩
  rw[uzD,bzh hi,aza,azP hi,aza,bzs hi,bzO _ (hs _ (List.getElem_mem _)),azb,uzJ (by simp;omega),aza,azq (by omega),List.take_succ_eq_append_getElem hi,List.map_append]
  rfl) xs.length 0 () (by omega) trivial).1.trans ?_
 rw[uzD,az7,azc,List.take_length,bzO _ (by rw[mzr];simp),azb,Hzl xs hx (pc xs.length-xs.length) _ (by simp;omega)]
 rfl
theorem Ez1: ∀ (k:Nat) (l:List ByteArray),l.length=2^k→l.length≤1000→(∀y∈l,y.size≤1048576)→rzx (l,())=some ((rd (bs []) (top k l) 0,()),())
 |0,l,hl,hb,hs=>by
  rw[Dzx,bzi (by rw[azz];omega),azc,bz0 (by omega) (by rw[azz];omega),aza];rfl
 |k+1,l,hl,hb,hs=>by
  rw[Nat.pow_succ] at hl
  have hp:1≤2^k:=Nat.one_le_two_pow
  rw[Dzx,bzU (by rw[azz];omega),aza,Wzx l (2^k) (by omega) hb hs,azb]
  have hu:=Gzu (2^k) l (by omega)
  exact Ez1 k (upV l) hu (by omega) (fun y hy=>by rw[zzx l y hy];omega)
theorem uzw (xs:List ByteArray) (hs: ∀y∈xs,y.size≤268435456) (hb:xs.length≤16777216):mzZ (xs,())=some ((szu xs,()),()):=by
 unfold szu
 rw[SzN]
 by_cases hl:xs.length≤32
 ·have hh:=qz6 xs hl
  have hge:=Ozf hl
  have hp:=NzR xs.length
  rw[if_pos hl,bzi (by rw[azz];omega),azc,Hz8 xs hl hs,azb]
  exact Ez1 _ (hashes xs) hh (by omega) fun y hy=>by rw[tzE y hy];omega
 ·rw[if_neg hl,bzU (by rw[azz];omega),aza]
def hz4 (h:azO):ByteArray:=bif pzF h then szu [varV h.1,h.2.1,h.2.2.1,h.2.2.2.1] else bs []
theorem wzL {h:azO} (e:pzF h=true):0≤h.1∧h.1≤10000∧h.2.1.size=32∧h.2.2.1.size=32∧h.2.2.2.1.size=32:=by
 simp only[pzF,Bool.and_eq_true,decide_eq_true_eq] at e
 exact ⟨e.1.1,e.1.2,e.2.1,e.2.2.1,e.2.2.2⟩
theorem EzW {h:azO} (e:pzF h=true): ∀y∈[varV h.1,h.2.1,h.2.2.1,h.2.2.2.1],y.size≤268435456:=by
 obtain ⟨h0,h1,h2,h3,h4⟩:=wzL e
 have:=QzV h.1
 intro y hy
 simp only[List.mem_cons,List.not_mem_nil,or_false] at hy
 rcases hy with rfl|rfl|rfl|rfl<;>omega
theorem Bz8 (h:azO):kzT (h,())=some ((hz4 h,()),()):=by
 unfold hz4
 rw[Kz9,Qzs,azb]
 cases e:pzF h
 ·rfl
 ·obtain ⟨h0,h1,_⟩:=wzL e
  rw[show bnot true=false from rfl,azc,iVar_l _ h0 (by omega),azb,Czd _ (EzW e) (by simp),azb]
  rfl
theorem uze (h:azO):kz3 (h,())=some ((hz4 h,()),()):=by
 unfold hz4
 rw[KzJ,RzF,azb]
 cases e:pzF h
 ·rfl
 ·obtain ⟨h0,h1,_⟩:=wzL e
  rw[show bnot true=false from rfl,azc,sVar_l _ h0 (by omega),azb,uzw _ (EzW e) (by simp),azb]
  rfl
theorem xzg (xs:List ByteArray):(szu xs).size≤32:=by
 unfold szu
 split
 ·rename_i hl
  have h1:=Mzn _ _ (qz6 xs hl)
  have hsz: ∀ (k:Nat) (l:List ByteArray),(∀y∈l,y.size=32)→ ∀y∈top k l,y.size=32:=by
   intro k
   induction k with
   |zero=>intro l h;exact h
   |succ k ih=>intro l h;exact ih (upV l) (zzx l)
  have h0:0<(top (lev xs.length) (hashes xs)).length:=by omega
  have:=hsz (lev xs.length) (hashes xs) tzE _ (List.getElem_mem h0)
  have e:rd (bs []) (top (lev xs.length) (hashes xs)) 0=(top (lev xs.length) (hashes xs))[0]:=bzs (i:=0) h0
  rw[e,this];exact Nat.le_refl _
 ·rw[mzr];exact Nat.zero_le _
end Go.Proofs.YthldgfkkgmpmlaaGreatDoor
