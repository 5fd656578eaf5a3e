/- Numbers as texts; trees of hashes. Of no condition. -/
import Derived.Test.YtoeiajpklkijgaaGreatDoorKC
set_option linter.unusedVariables false
set_option linter.unusedSimpArgs false
set_option maxRecDepth 100000
namespace Go.Proofs.YtoeiajpklkijgaaGreatDoor
open Go.TV
def varL:Nat→Int→List Int
 |0,x=>[iconv .u8 x]
 |k+1,x=>if 127<x then iconv .u8 (x % 128+128)::varL k (x/128) else [iconv .u8 x]
def varV (x:Int):ByteArray:=sof (varL 9 x)
theorem varL_len: ∀k x,(varL k x).length≤k+1
 |0,x=>Nat.le_refl _
 |k+1,x=>by
  unfold varL
  split
  ·rw[List.length_cons];have:=varL_len k (x/128);omega
  ·simp
theorem varV_size (x:Int):(varV x).size≤10:=by rw[varV,size_sof];exact varL_len 9 x
theorem iVar_loop: ∀ (k:Nat) (x:Int) (l:List Int),0≤x→x<128^ (k+1)→x≤9223372036854775000→l.length+k≤100→iVarText_D2 (x,(l,()))=some ((sof (l++varL k x),()),())
 |0,x,l,h0,h1,h2,hl=>by
  rw[iVarText_q2,igt_f (by simp at h1;omega),cnd_f,app_fits (by decide) (by simp;omega),cnd_t];rfl
 |k+1,x,l,h0,h1,h2,hl=>by
  rw[iVarText_q2]
  unfold varL
  by_cases h:127<x
  ·rw[igt_t h,cnd_t,show nz 128=true from rfl,cnd_t,irem_0 h0,iadd_64 (by omega) (by omega),app_fits (by decide) (by simp;omega),cnd_t,cnd_t,iquo_64 h0 (by omega) (by omega),if_pos h,Int.add_comm 128]
   show iVarText_D2 (x/128,(l++[iconv .u8 (x % 128+128)],()))=_
   rw[iVar_loop k (x/128) _ (Int.ediv_nonneg h0 (by omega)) (Int.ediv_lt_of_lt_mul (by omega) (by rw[Int.pow_succ] at h1;exact h1)) (by omega) (by simp;omega),List.append_assoc];rfl
  ·rw[igt_f (by omega),cnd_f,app_fits (by decide) (by simp;omega),cnd_t,if_neg h];rfl
theorem sVar_loop: ∀ (k:Nat) (x:Int) (l:List Int),0≤x→x<128^ (k+1)→x≤9223372036854775000→l.length+k≤100→sL01Var_D2 (x,(l,()))=some ((sof (l++varL k x),()),())
 |0,x,l,h0,h1,h2,hl=>by
  rw[sL01Var_q2,igt_f (by simp at h1;omega),cnd_f,app_fits (by decide) (by simp;omega),cnd_t];rfl
 |k+1,x,l,h0,h1,h2,hl=>by
  rw[sL01Var_q2]
  unfold varL
  by_cases h:127<x
  ·rw[igt_t h,cnd_t,show nz 128=true from rfl,cnd_t,irem_0 h0,iadd_64 (by omega) (by omega),app_fits (by decide) (by simp;omega),cnd_t,cnd_t,iquo_64 h0 (by omega) (by omega),if_pos h]
   show sL01Var_D2 (x/128,(l++[iconv .u8 (x % 128+128)],()))=_
   rw[sVar_loop k (x/128) _ (Int.ediv_nonneg h0 (by omega)) (Int.ediv_lt_of_lt_mul (by omega) (by rw[Int.pow_succ] at h1;exact h1)) (by omega) (by simp;omega),List.append_assoc];rfl
  ·rw[igt_f (by omega),cnd_f,app_fits (by decide) (by simp;omega),cnd_t,if_neg h];rfl
theorem iVar_l (x:Int) (h0:0≤x) (h1:x≤9223372036854775000):iVarText_d (x,())=some ((varV x,()),()):=by
 rw[iVarText_b,iVar_loop 9 x [] h0 (by omega) h1 (by simp)];rfl
theorem sVar_l (x:Int) (h0:0≤x) (h1:x≤9223372036854775000):sL01Var_d (x,())=some ((varV x,()),()):=by
 rw[sL01Var_b,sVar_loop 9 x [] h0 (by omega) h1 (by simp)];rfl
def pc (n:Nat):Nat:=if n≤1 then 1 else if n≤2 then 2 else if n≤4 then 4 else if n≤8 then 8 else if n≤16 then 16 else 32
def lev (n:Nat):Nat:=if n≤1 then 0 else if n≤2 then 1 else if n≤4 then 2 else if n≤8 then 3 else if n≤16 then 4 else 5
theorem pc_lev (n:Nat):pc n=2^lev n:=by unfold pc lev;repeat' split<;>try rfl
theorem lev_le (n:Nat):lev n≤5:=by unfold lev;repeat' split<;>try omega
theorem pc_ge {n:Nat} (h:n≤32):n≤pc n∧1≤pc n∧pc n≤32:=by unfold pc;repeat' split<;>try omega
theorem pc_between {n m:Nat} (h1:n≤m) (h2:m≤pc n) (h:n≤32):pc m=pc n:=by
 unfold pc at*;repeat' split at* <;>try omega
 all_goals (repeat' split)<;>omega
def hashes (l:List ByteArray):List ByteArray:=l.map digestV++List.replicate (pc l.length-l.length) (digestV (bs []))
theorem hashes_len (l:List ByteArray) (h:l.length≤32):(hashes l).length=2^lev l.length:=by
 have:=pc_ge h
 rw[←pc_lev];simp [hashes];omega
theorem hashes_size {l:List ByteArray}: ∀y∈hashes l,y.size=32:=by
 intro y hy
 simp only[hashes,List.mem_append,List.mem_map,List.mem_replicate] at hy
 rcases hy with ⟨x,_,rfl⟩| ⟨_,rfl⟩<;>exact digestV_size _
def upV:List ByteArray→List ByteArray
 |a::b::r=>digestV (scat a b)::upV r
 |_=>[]
theorem upV_size: ∀ (l:List ByteArray),∀y∈upV l,y.size=32
 | [],y,h=>by cases h
 | [_],y,h=>by cases h
 |a::b::r,y,h=>by
  simp only[upV,List.mem_cons] at h
  rcases h with rfl|h
  ·exact digestV_size _
  ·exact upV_size r y h
theorem upV_len: ∀ (k:Nat) (l:List ByteArray),l.length=2*k→(upV l).length=k
 |0,l,h=>by have:l=[]:=List.length_eq_zero_iff.1 (by omega);subst this;rfl
 |k+1,a::b::r,h=>by
  simp only[upV,List.length_cons] at h⊢
  rw[upV_len k r (by omega)]
 |k+1,[],h=>by simp at h
 |k+1,[_],h=>by simp at h;omega
theorem sDigestPair_l (a b:ByteArray) (ha:a.size≤1048576) (hb:b.size≤1048576):sDigestPair_d (a,(b,()))=some ((digestV (scat a b),()),()):=by
 rw[sDigestPair_b,cat_fits (by omega),cnd_t,sDigest_l _ (by rw[size_scat];omega),bnd_s]
theorem iDigestPair_l (a b:ByteArray) (ha:a.size≤1048576) (hb:b.size≤1048576):iDigestPair_d (a,(b,()))=some ((digestV (scat a b),()),()):=by
 rw[iDigestPair_b,cat_fits (by omega),cnd_t,iDigest_l _ (by rw[size_scat];omega),bnd_s]
theorem drop_two {α:Type} {xs:List α} {i:Nat} (h:i+1<xs.length):xs.drop i=xs[i]::xs[i+1]::xs.drop (i+2):=by
 rw[List.drop_eq_getElem_cons (by omega),List.drop_eq_getElem_cons h]
theorem sUp_loop (l:List ByteArray) (hl:l.length≤1000) (hs: ∀y∈l,y.size≤1048576): ∀ (k i:Nat) (acc:List ByteArray),i+2*k=l.length→acc.length≤i→sL10Up_D3 (l,(acc,((i:Int),())))=some ((acc++upV (l.drop i),()),())
 |0,i,acc,hi,ha=>by
  rw[sL10Up_q3,iadd_64 (by omega) (by omega),ilt_f (by rw[len_d];omega),cnd_f,List.drop_eq_nil_of_le (by omega)]
  show _=some ((acc++[],()),())
  rw[List.append_nil]
 |k+1,i,acc,hi,ha=>by
  have h1:i+1<l.length:=by omega
  have e:iadd .i64 (i:Int) 1=((i+1:Nat):Int):=next_at (by omega)
  rw[sL10Up_q3,e,ilt_at h1,cnd_t,inb_at (by omega),cnd_t,inb_at h1,cnd_t,rd_at (by omega),rd_at h1,sDigestPair_l _ _ (hs _ (List.getElem_mem _)) (hs _ (List.getElem_mem _)),bnd_s,app_fits (by decide) (by simp;omega),cnd_t,
   iadd_64 (by omega) (by omega),show (i:Int)+2=((i+2:Nat):Int) by omega]
  show sL10Up_D3 (l,(acc++[digestV (scat l[i] l[i+1])],(((i+2:Nat):Int),())))=_
  rw[sUp_loop l hl hs k (i+2) _ (by omega) (by simp;omega),drop_two h1,List.append_assoc]
  rfl
theorem sUp_l (l:List ByteArray) (k:Nat) (hk:l.length=2*k) (hl:l.length≤1000) (hs: ∀y∈l,y.size≤1048576):sL10Up_d (l,())=some ((upV l,()),()):=by
 rw[sL10Up_b]
 exact sUp_loop l hl hs k 0 [] (by omega) (by simp)
def levs:Nat→List ByteArray→List (List ByteArray)
 |0,_=>[]
 |k+1,l=>upV l::levs k (upV l)
def top:Nat→List ByteArray→List ByteArray
 |0,l=>l
 |k+1,l=>top k (upV l)
theorem iUp_loop (l:List ByteArray) (ls:List (List ByteArray)) (hl:l.length≤1000) (hs: ∀y∈l,y.size≤1048576) (hls:ls.length≤1000): ∀ (k i:Nat) (acc:List ByteArray),i+2*k=l.length→acc.length≤i→
 iLevelsOfTree_D13 (l,(ls,(acc,((i:Int),()))))=iLevelsOfTree_D10 (acc++upV (l.drop i),(ls++[acc++upV (l.drop i)],()))
 |0,i,acc,hi,ha=>by
  rw[iLevelsOfTree_q13,ilt_f (by rw[len_d];omega),cnd_f,app_fits (by decide) (by simp;omega),cnd_t,List.drop_eq_nil_of_le (by omega)]
  show iLevelsOfTree_D10 (acc,(ls++[acc],()))=iLevelsOfTree_D10 (acc++[],(ls++[acc++[]],()))
  rw[List.append_nil]
 |k+1,i,acc,hi,ha=>by
  have h1:i+1<l.length:=by omega
  have e:iadd .i64 (i:Int) 1=((i+1:Nat):Int):=next_at (by omega)
  rw[iLevelsOfTree_q13,ilt_at (by omega),cnd_t,inb_at (by omega),cnd_t,e,inb_at h1,cnd_t,rd_at (by omega),rd_at h1,iDigestPair_l _ _ (hs _ (List.getElem_mem _)) (hs _ (List.getElem_mem _)),bnd_s,app_fits (by decide) (by simp;omega),cnd_t,
   iadd_64 (by omega) (by omega),show (i:Int)+2=((i+2:Nat):Int) by omega]
  show iLevelsOfTree_D13 (l,(ls,(acc++[digestV (scat l[i] l[i+1])],(((i+2:Nat):Int),()))))=_
  rw[iUp_loop l ls hl hs hls k (i+2) _ (by omega) (by simp;omega),drop_two h1,List.append_assoc]
  rfl
theorem iLevels_loop: ∀ (k:Nat) (l:List ByteArray) (ls:List (List ByteArray)),l.length=2^k→l.length≤1000→(∀y∈l,y.size≤1048576)→ls.length+k≤1000→iLevelsOfTree_D10 (l,(ls,()))=some ((ls++levs k l,()),())
 |0,l,ls,hl,hb,hs,hls=>by
  rw[iLevelsOfTree_q10,igt_f (by rw[len_d];omega),cnd_f]
  show _=some ((ls++[],()),())
  rw[List.append_nil]
 |k+1,l,ls,hl,hb,hs,hls=>by
  rw[Nat.pow_succ] at hl
  have hp:1≤2^k:=Nat.one_le_two_pow
  rw[iLevelsOfTree_q10,igt_t (by rw[len_d];omega),cnd_t]
  refine (iUp_loop l ls hb hs (by omega) (2^k) 0 [] (by omega) (by simp)).trans ?_
  have hu:=upV_len (2^k) l (by omega)
  rw[List.nil_append,List.drop_zero,iLevels_loop k (upV l) _ hu (by omega) (fun y hy=>by rw[upV_size l y hy];omega) (by simp;omega),List.append_assoc]
  rfl
theorem hash_fits {l:List ByteArray} {x:ByteArray} (h:l.length≤1000):fits (len l+len (x::([]:List ByteArray))) 1=true:=app_fits (by decide) (by simp;omega)
theorem iHashes_1 (xs:List ByteArray) (hl:xs.length≤1000) (hs: ∀y∈xs,y.size≤268435456):iLevelsOfTree_D3 ([],(xs,(len xs,(0,()))))=iLevelsOfTree_D7 (xs.map digestV,()):=by
 refine (loop_to (D:=iLevelsOfTree_D3) (st:=fun i (_:Unit)=>((xs.take i).map digestV,(xs,(len xs,((i:Int),()))))) (n:=xs.length) (P:=fun _=>True) (step:=fun _ u=>u) (fun i _ hi _=>by
  refine ⟨?_,trivial⟩
  rw[iLevelsOfTree_q3,ilt_at hi,cnd_t,inb_at hi,cnd_t,rd_at hi,iDigest_l _ (hs _ (List.getElem_mem _)),bnd_s,hash_fits (by simp;omega),cnd_t,next_at (by omega),List.take_succ_eq_append_getElem hi,List.map_append]
  rfl) xs.length 0 () (by omega) trivial).1.trans ?_
 rw[iLevelsOfTree_q3,ilt_end,cnd_f,List.take_length]
theorem pc_test:allB' 33 (fun m=>(bif ieq (m:Int) 0 then true else ine (iand .i64 (m:Int) (isub .i64 (m:Int) 1)) 0)==!(m==pc m))=true:=by kernel_rfl
theorem iHashes_2: ∀ (k:Nat) (l:List ByteArray),l.length+k=pc l.length→l.length≤32→iLevelsOfTree_D7 (l,())=iLevelsOfTree_D10 (l++List.replicate k (digestV (bs [])),([l++List.replicate k (digestV (bs []))],()))
 |0,l,hk,hl=>by
  have h:=allB'_of _ _ pc_test l.length (by omega)
  rw[show (l.length==pc l.length)=true from by rw[beq_iff_eq];omega] at h
  rw[iLevelsOfTree_q7,len_d,List.replicate_zero,List.append_nil]
  cases h1:ieq (l.length:Int) 0<;>rw[h1] at h
  ·simp only[cond_false,Bool.not_true] at h
   rw[eq_of_beq h,cnd_f,cnd_f]
  ·cases h
 |k+1,l,hk,hl=>by
  have h:=allB'_of _ _ pc_test l.length (by omega)
  rw[show (l.length==pc l.length)=false from by rw[beq_eq_false_iff_ne];omega] at h
  have hpc:pc (l.length+1)=pc l.length:=pc_between (by omega) (by omega) hl
  have hge:=pc_ge hl
  have st:iLevelsOfTree_D7 (l,())=iLevelsOfTree_D7 (l++[digestV (bs [])],()):=by
   rw[iLevelsOfTree_q7,iDigest_l _ (by rw[size_bs];simp),bnd_s,hash_fits (by omega),cnd_t]
   cases h1:ieq (len l) 0
   ·rw[len_d] at h1
    rw[h1] at h
    simp only[cond_false,Bool.not_false] at h
    rw[cnd_f,len_d,eq_of_beq h,cnd_t];rfl
   ·rw[cnd_t];rfl
  rw[st,iHashes_2 k (l++[digestV (bs [])]) (by simp;omega) (by simp;omega),List.append_assoc]
  rfl
theorem iTree_l (xs:List ByteArray) (hl:xs.length≤32) (hs: ∀y∈xs,y.size≤268435456):iLevelsOfTree_d (xs,())=some ((hashes xs::levs (lev xs.length) (hashes xs),()),()):=by
 have hge:=pc_ge hl
 have hh:=hashes_len xs hl
 have hp:=pc_lev xs.length
 rw[iLevelsOfTree_b,iHashes_1 xs (by omega) hs,iHashes_2 (pc xs.length-xs.length) _ (by simp;omega) (by simp;omega)]
 exact iLevels_loop _ (hashes xs) [hashes xs] hh (by omega) (fun y hy=>by rw[hashes_size y hy];omega) (by have:=lev_le xs.length;simp;omega)
theorem top_len: ∀ (k:Nat) (l:List ByteArray),l.length=2^k→(top k l).length=1
 |0,l,h=>h
 |k+1,l,h=>top_len k (upV l) (upV_len _ l (by rw[Nat.pow_succ] at h;omega))
theorem levs_last: ∀ (k:Nat) (l:List ByteArray),(l::levs k l).getLast (by simp)=top k l
 |0,l=>rfl
 |k+1,l=>by
  show (l::upV l::levs k (upV l)).getLast _=top k (upV l)
  rw[List.getLast_cons (by simp)]
  exact levs_last k (upV l)
theorem levs_len: ∀ (k:Nat) (l:List ByteArray),(levs k l).length=k
 |0,l=>rfl
 |k+1,l=>by rw[levs,List.length_cons,levs_len k]
def rootV (xs:List ByteArray):ByteArray:=if xs.length≤32 then rd (bs []) (top (lev xs.length) (hashes xs)) 0 else bs []
theorem iRootOf_l (xs:List ByteArray) (hs: ∀y∈xs,y.size≤268435456) (hb:xs.length≤16777216):iRootOf_d (xs,())=some ((rootV xs,()),()):=by
 unfold rootV
 rw[iRootOf_b]
 by_cases hl:xs.length≤32
 ·rw[if_pos hl,igt_f (by rw[len_d];omega),cnd_f,iTree_l xs hl hs,bnd_s]
  generalize hL:hashes xs::levs (lev xs.length) (hashes xs)=L
  have hll:L.length=lev xs.length+1:=by rw[←hL,List.length_cons,levs_len]
  have h5:=lev_le xs.length
  have e1:isub .i64 (len L) 1=((L.length-1:Nat):Int):=by rw[len_d,isub_64 (by omega) (by omega)];omega
  have e2:rd ([]:List ByteArray) L ((L.length-1:Nat):Int)=top (lev xs.length) (hashes xs):=by
   rw[rd_at (by omega),←levs_last]
   subst hL
   rw[List.getLast_eq_getElem]
  have e3:=top_len _ _ (hashes_len xs hl)
  simp only[e1,e2]
  rw[inb_at (by omega),cnd_t,inb_t (by omega) (by rw[len_d];omega),cnd_t]
 ·rw[if_neg hl,igt_t (by rw[len_d];omega),cnd_t]
theorem sLevels_step (x k:Nat) (hk:k≤5):sLevelsOf_D4 ((x:Int),((k:Int),()))=if 2^k<x then sLevelsOf_D4 ((x:Int),(((k+1:Nat):Int),())) else some (((k:Int),()),()):=by
 have e: ∀k:Nat,k<6→(decide (iconv .u64 (k:Int)=(k:Int))&&decide (ishl .i64 1 (k:Int)=((2^k:Nat):Int)))=true:=allB'_of 6 (fun k=>decide (iconv .u64 (k:Int)=(k:Int))&&decide (ishl .i64 1 (k:Int)=((2^k:Nat):Int))) (by kernel_rfl)
 have:=e k (by omega)
 simp only[Bool.and_eq_true,decide_eq_true_eq] at this
 rw[sLevelsOf_q4,this.1,nn_d,decide_eq_true (by omega),cnd_t,this.2,next_at (by omega)]
 by_cases h:2^k<x
 ·rw[ilt_t (by omega),cnd_t,if_pos h]
 ·rw[ilt_f (by omega),cnd_f,if_neg h]
theorem sLevels_l (x:Nat) (hx:x≤32):sLevelsOf_d ((x:Int),())=some ((((lev x:Nat):Int),()),()):=by
 rw[sLevelsOf_b,sIn_l,bnd_s]
 have h0:decide ((0:Int)≤(x:Int)∧(x:Int)≤32)=true:=decide_eq_true (by omega)
 simp only[h0,bnot,Bool.not_true,cnd_f]
 refine (sLevels_step x 0 (by omega)).trans ?_
 unfold lev
 split
 ·rw[sLevels_step x 1 (by omega)]
  split
  ·rw[sLevels_step x 2 (by omega)]
   split
   ·rw[sLevels_step x 3 (by omega)]
    split
    ·rw[sLevels_step x 4 (by omega)]
     split
     ·rw[sLevels_step x 5 (by omega),if_neg (by omega),if_neg (by omega),if_neg (by omega),if_neg (by omega),if_neg (by omega),if_neg (by omega)]
     ·rw[if_neg (by omega),if_neg (by omega),if_neg (by omega),if_neg (by omega),if_pos (by omega)]
    ·rw[if_neg (by omega),if_neg (by omega),if_neg (by omega),if_pos (by omega)]
   ·rw[if_neg (by omega),if_neg (by omega),if_pos (by omega)]
  ·rw[if_neg (by omega),if_pos (by omega)]
 ·rw[if_pos (by omega)]
theorem sHashes_2 (xs:List ByteArray) (hx:xs.length≤32): ∀ (k:Nat) (l:List ByteArray),l.length+k=pc xs.length→sL10Hashes_D7 (xs,(l,(digestV (bs []),())))=some ((l++List.replicate k (digestV (bs [])),()),())
 |k,l,hk=>by
  have hge:=pc_ge hx
  have h5:=lev_le xs.length
  have e: ∀k:Nat,k<6→(decide (iconv .u64 (k:Int)=(k:Int))&&decide (ishl .i64 1 (k:Int)=((2^k:Nat):Int)))=true:=allB'_of 6 (fun k=>decide (iconv .u64 (k:Int)=(k:Int))&&decide (ishl .i64 1 (k:Int)=((2^k:Nat):Int))) (by kernel_rfl)
  have:=e (lev xs.length) (by omega)
  simp only[Bool.and_eq_true,decide_eq_true_eq] at this
  have e1:sLevelsOf_d (len xs,())=some ((((lev xs.length:Nat):Int),()),()):=by rw[len_d];exact sLevels_l _ hx
  rw[sL10Hashes_q7,e1,bnd_s]
  simp only[this.1,this.2]
  rw[nn_d,decide_eq_true (by omega),cnd_t,←pc_lev]
  match k,hk with
  |0,hk=>rw[ilt_f (by rw[len_d];omega),cnd_f,List.replicate_zero,List.append_nil]
  |k+1,hk=>
   rw[ilt_t (by rw[len_d];omega),cnd_t,hash_fits (by omega),cnd_t]
   show sL10Hashes_D7 (xs,(l++[digestV (bs [])],(digestV (bs []),())))=_
   rw[sHashes_2 xs hx k (l++[digestV (bs [])]) (by simp;omega),List.append_assoc]
   rfl
theorem sHashes_l (xs:List ByteArray) (hx:xs.length≤32) (hs: ∀y∈xs,y.size≤268435456):sL10Hashes_d (xs,())=some ((hashes xs,()),()):=by
 have hge:=pc_ge hx
 rw[sL10Hashes_b]
 refine (loop_to (D:=sL10Hashes_D3) (st:=fun i (_:Unit)=>(xs,((xs.take i).map digestV,((i:Int),())))) (n:=xs.length) (P:=fun _=>True) (step:=fun _ u=>u) (fun i _ hi _=>by
  refine ⟨?_,trivial⟩
  rw[sL10Hashes_q3,ilt_at hi,cnd_t,inb_at hi,cnd_t,rd_at hi,sDigest_l _ (hs _ (List.getElem_mem _)),bnd_s,hash_fits (by simp;omega),cnd_t,next_at (by omega),List.take_succ_eq_append_getElem hi,List.map_append]
  rfl) xs.length 0 () (by omega) trivial).1.trans ?_
 rw[sL10Hashes_q3,ilt_end,cnd_f,List.take_length,sDigest_l _ (by rw[size_bs];simp),bnd_s,sHashes_2 xs hx (pc xs.length-xs.length) _ (by simp;omega)]
 rfl
theorem sRoot_loop: ∀ (k:Nat) (l:List ByteArray),l.length=2^k→l.length≤1000→(∀y∈l,y.size≤1048576)→sRootOf_D4 (l,())=some ((rd (bs []) (top k l) 0,()),())
 |0,l,hl,hb,hs=>by
  rw[sRootOf_q4,igt_f (by rw[len_d];omega),cnd_f,inb_t (by omega) (by rw[len_d];omega),cnd_t];rfl
 |k+1,l,hl,hb,hs=>by
  rw[Nat.pow_succ] at hl
  have hp:1≤2^k:=Nat.one_le_two_pow
  rw[sRootOf_q4,igt_t (by rw[len_d];omega),cnd_t,sUp_l l (2^k) (by omega) hb hs,bnd_s]
  have hu:=upV_len (2^k) l (by omega)
  exact sRoot_loop k (upV l) hu (by omega) (fun y hy=>by rw[upV_size l y hy];omega)
theorem sRootOf_l (xs:List ByteArray) (hs: ∀y∈xs,y.size≤268435456) (hb:xs.length≤16777216):sRootOf_d (xs,())=some ((rootV xs,()),()):=by
 unfold rootV
 rw[sRootOf_b]
 by_cases hl:xs.length≤32
 ·have hh:=hashes_len xs hl
  have hge:=pc_ge hl
  have hp:=pc_lev xs.length
  rw[if_pos hl,igt_f (by rw[len_d];omega),cnd_f,sHashes_l xs hl hs,bnd_s]
  exact sRoot_loop _ (hashes xs) hh (by omega) fun y hy=>by rw[hashes_size y hy];omega
 ·rw[if_neg hl,igt_t (by rw[len_d];omega),cnd_t]
def headRoot (h:tHead):ByteArray:=bif headOk h then rootV [varV h.1,h.2.1,h.2.2.1,h.2.2.2.1] else bs []
theorem headOk_out {h:tHead} (e:headOk h=true):0≤h.1∧h.1≤10000∧h.2.1.size=32∧h.2.2.1.size=32∧h.2.2.2.1.size=32:=by
 simp only[headOk,Bool.and_eq_true,decide_eq_true_eq] at e
 exact ⟨e.1.1,e.1.2,e.2.1,e.2.2.1,e.2.2.2⟩
theorem head_sizes {h:tHead} (e:headOk h=true): ∀y∈[varV h.1,h.2.1,h.2.2.1,h.2.2.2.1],y.size≤268435456:=by
 obtain ⟨h0,h1,h2,h3,h4⟩:=headOk_out e
 have:=varV_size h.1
 intro y hy
 simp only[List.mem_cons,List.not_mem_nil,or_false] at hy
 rcases hy with rfl|rfl|rfl|rfl<;>omega
theorem iHeadRoot_l (h:tHead):iHeadRoot_d (h,())=some ((headRoot h,()),()):=by
 unfold headRoot
 rw[iHeadRoot_b,iHeadOk_l,bnd_s]
 cases e:headOk h
 ·rfl
 ·obtain ⟨h0,h1,_⟩:=headOk_out e
  rw[show bnot true=false from rfl,cnd_f,iVar_l _ h0 (by omega),bnd_s,iRootOf_l _ (head_sizes e) (by simp),bnd_s]
  rfl
theorem sHeadRoot_l (h:tHead):sHeadRoot_d (h,())=some ((headRoot h,()),()):=by
 unfold headRoot
 rw[sHeadRoot_b,sHeadOk_l,bnd_s]
 cases e:headOk h
 ·rfl
 ·obtain ⟨h0,h1,_⟩:=headOk_out e
  rw[show bnot true=false from rfl,cnd_f,sVar_l _ h0 (by omega),bnd_s,sRootOf_l _ (head_sizes e) (by simp),bnd_s]
  rfl
theorem rootV_size (xs:List ByteArray):(rootV xs).size≤32:=by
 unfold rootV
 split
 ·rename_i hl
  have h1:=top_len _ _ (hashes_len xs hl)
  have hsz: ∀ (k:Nat) (l:List ByteArray),(∀y∈l,y.size=32)→ ∀y∈top k l,y.size=32:=by
   intro k
   induction k with
   |zero=>intro l h;exact h
   |succ k ih=>intro l h;exact ih (upV l) (upV_size l)
  have h0:0<(top (lev xs.length) (hashes xs)).length:=by omega
  have:=hsz (lev xs.length) (hashes xs) hashes_size _ (List.getElem_mem h0)
  have e:rd (bs []) (top (lev xs.length) (hashes xs)) 0=(top (lev xs.length) (hashes xs))[0]:=rd_at (i:=0) h0
  rw[e,this];exact Nat.le_refl _
 ·rw[size_bs];exact Nat.zero_le _
end Go.Proofs.YtoeiajpklkijgaaGreatDoor
