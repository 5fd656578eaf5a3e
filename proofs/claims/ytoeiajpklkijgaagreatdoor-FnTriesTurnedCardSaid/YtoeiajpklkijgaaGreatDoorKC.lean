/- Digests: words, blocks, texts. Of no condition. -/
import Derived.Test.YtoeiajpklkijgaaGreatDoorKB
set_option linter.unusedVariables false
set_option linter.unusedSimpArgs false
set_option maxRecDepth 100000
namespace Go.Proofs.YtoeiajpklkijgaaGreatDoor
open Go.TV
def wordStep (s:ByteArray) (p:Int) (k:Nat) (n:Int):Int:=ior .u64 (ishl .u64 n 8) (iconv .u64 (sat s (p+(7- (k:Int)))))
def wordV (s:ByteArray) (p:Int):Int:=iter (wordStep s p) 8 0 0
theorem iWord_l (s:ByteArray) (p:Int) (h0:0≤p) (h1:p+8≤(s.size:Int)) (h2:s.size≤1099511627776):iWordAt_d (s,(p,()))=some ((wordV s p,()),()):=by
 rw[iWordAt_b]
 refine (loop_to (D:=iWordAt_D3) (st:=fun k n=>(s,(p,(n,(7- (k:Int),()))))) (n:=8) (P:=fun _=>True) (step:=wordStep s p) (fun k n hk _=>by
  refine ⟨?_,trivial⟩
  rw[iWordAt_q3,show ige (7- (k:Int)) 0=true from decide_eq_true (by omega),cnd_t,show nn 8=true from rfl,cnd_t,iadd_64 (by omega) (by omega),inb_t (by omega) (by rw[ssz_d];omega),cnd_t,isub_64 (by omega) (by omega),show (7:Int)-k-1=7- ((k+1:Nat):Int) by omega]
  rfl) 8 0 0 rfl trivial).1.trans ?_
 rw[iWordAt_q3,show ige (7- ((8:Nat):Int)) 0=false from rfl,cnd_f]
 rfl
theorem sWord_l (s:ByteArray) (p:Int) (h0:0≤p) (h1:p+8≤(s.size:Int)) (h2:s.size≤1099511627776):sL03Word_d (s,(p,()))=some ((wordV s p,()),()):=by
 rw[sL03Word_b]
 refine (loop_to (D:=sL03Word_D3) (st:=fun k n=>(s,(p,(n,(7- (k:Int),()))))) (n:=8) (P:=fun _=>True) (step:=wordStep s p) (fun k n hk _=>by
  refine ⟨?_,trivial⟩
  rw[sL03Word_q3,show ige (7- (k:Int)) 0=true from decide_eq_true (by omega),cnd_t,show nn 8=true from rfl,cnd_t,iadd_64 (by omega) (by omega),inb_t (by omega) (by rw[ssz_d];omega),cnd_t,isub_64 (by omega) (by omega),show (7:Int)-k-1=7- ((k+1:Nat):Int) by omega]
  rfl) 8 0 0 rfl trivial).1.trans ?_
 rw[sL03Word_q3,show ige (7- ((8:Nat):Int)) 0=false from rfl,cnd_f]
 rfl
def byteV (w:Int) (k:Nat):Int:=iconv .u8 (ishr .u64 w ((8*k:Nat):Int))
def bytesOf (a:List Int) (n:Nat):List Int:=(List.range n).map fun i=>byteV (rd 0 a ((i/8:Nat):Int)) (i % 8)
theorem bytesOf_succ (a:List Int) (n:Nat):bytesOf a (n+1)=bytesOf a n++[byteV (rd 0 a ((n/8:Nat):Int)) (n % 8)]:=by
 unfold bytesOf;rw[List.range_succ,List.map_append];rfl
theorem bytesOf_len (a:List Int) (n:Nat):(bytesOf a n).length=n:=by simp [bytesOf]
def stateText (a:List Int):ByteArray:=sof (bytesOf a 200)
theorem stateText_size (a:List Int):(stateText a).size=200:=by rw[stateText,size_sof,bytesOf_len]
theorem ishr_0 (w:Int):ishr .u64 w 0=w:=by
 unfold ishr
 rw[show (2:Int)^ (min (0:Int).toNat IntKind.u64.bits)=1 from rfl,Int.fdiv_one]
theorem ishr_8 (w:Int) (k:Nat) (hk:k<8):ishr .u64 (ishr .u64 w ((8*k:Nat):Int)) 8=ishr .u64 w ((8*(k+1):Nat):Int):=by
 unfold ishr
 rw[show (min (8:Int).toNat IntKind.u64.bits)=8 from rfl]
 have e1:min (((8*k:Nat):Int)).toNat IntKind.u64.bits=8*k:=by rw[Int.toNat_natCast];exact Nat.min_eq_left (show 8*k≤64 by omega)
 have e2:min (((8*(k+1):Nat):Int)).toNat IntKind.u64.bits=8*k+8:=by rw[Int.toNat_natCast];exact Nat.min_eq_left (show 8*(k+1)≤64 by omega)
 rw[e1,e2,Int.pow_add]
 have hp:(0:Int)≤2^ (8*k):=Int.le_of_lt (Int.pow_pos (by decide))
 rw[Int.fdiv_eq_ediv_of_nonneg _ hp,Int.fdiv_eq_ediv_of_nonneg _ (by decide),Int.fdiv_eq_ediv_of_nonneg _ (Int.mul_nonneg hp (by decide)),Int.ediv_ediv_of_nonneg hp]
theorem iBytes_l (b:List Int) (w:Int) (hb:b.length≤1000):iWordBytes_d (b,(w,()))=some ((b++(List.range 8).map (byteV w),()),()):=by
 rw[iWordBytes_b]
 have st:=(loop_to (D:=iWordBytes_D2) (st:=fun k (_:Unit)=>(b++(List.range k).map (byteV w),(ishr .u64 w ((8*k:Nat):Int),((k:Int),())))) (n:=8) (P:=fun _=>True) (step:=fun _ u=>u) (fun k _ hk _=>by
  refine ⟨?_,trivial⟩
  rw[iWordBytes_q2,ilt_t (by omega),cnd_t,app_fits (by decide) (by simp;omega),cnd_t,show nn 8=true from rfl,cnd_t,ishr_8 _ _ hk,nx (by omega),List.range_succ,List.map_append,←List.append_assoc]
  rfl) 8 0 () rfl trivial).1
 have e:iWordBytes_D2 (b,(w,(0,())))=iWordBytes_D2 (b++(List.range 0).map (byteV w),(ishr .u64 w ((8*0:Nat):Int),(((0:Nat):Int),()))):=by
  rw[show ((8*0:Nat):Int)=0 from rfl,ishr_0,List.range_zero,List.map_nil,List.append_nil]
 rw[e]
 refine st.trans ?_
 rw[iWordBytes_q2,ilt_f (by omega),cnd_f]
theorem bytesOf_word (a:List Int) (i:Nat):bytesOf a (8*i)++(List.range 8).map (byteV (rd 0 a (i:Int)))=bytesOf a (8*(i+1)):=by
 have h: ∀k,k<8→bytesOf a (8*i+(k+1))=bytesOf a (8*i+k)++[byteV (rd 0 a (i:Int)) k]:=by
  intro k hk
  rw[←Nat.add_assoc,bytesOf_succ,show (8*i+k)/8=i by omega,show (8*i+k) % 8=k by omega]
 rw[show 8*(i+1)=8*i+8 by omega,h 7 (by omega),h 6 (by omega),h 5 (by omega),h 4 (by omega),h 3 (by omega),h 2 (by omega),h 1 (by omega),h 0 (by omega)]
 simp only[List.append_assoc]
 rfl
theorem iText_l (a:List Int):iSponge_text_d (a,())=some ((stateText a,()),(a,())):=by
 rw[iSponge_text_b,show both (inb2 0 0 200) (fits 200 1)=true by kernel_rfl,cnd_t]
 refine (loop_to (D:=iSponge_text_D3) (st:=fun i (_:Unit)=>(bytesOf a (8*i),((i:Int),(a,())))) (n:=25) (P:=fun _=>True) (step:=fun _ u=>u) (fun i _ hi _=>by
  refine ⟨?_,trivial⟩
  rw[iSponge_text_q3,ilt_t (by omega),cnd_t,inb25 hi,cnd_t,iBytes_l _ _ (by rw[bytesOf_len];omega),bnd_s,nx (by omega),bytesOf_word]) 25 0 () rfl trivial).1.trans ?_
 rw[iSponge_text_q3,ilt_f (by omega),cnd_f]
 rfl
theorem upd_mid {α:Type} (l r:List α) (x y:α):upd (l++x::r) (l.length:Int) y=l++y::r:=by simp [upd]
theorem sText_l (a:List Int):sL03Text_d (a,())=some ((stateText a,()),()):=by
 rw[sL03Text_b,show both (inb2 0 200 200) (fits 200 1)=true by kernel_rfl,cnd_t]
 refine (loop_to (D:=sL03Text_D3) (st:=fun i (_:Unit)=>(bytesOf a i++List.replicate (200-i) 0,((i:Int),(a,())))) (n:=200) (P:=fun _=>True) (step:=fun _ u=>u) (fun i _ hi _=>by
  refine ⟨?_,trivial⟩
  have h8:=Nat.mod_lt i (show 8>0 by omega)
  have e1:iquo .i64 (i:Int) 8=((i/8:Nat):Int):=by rw[iquo_64 (by omega) (by omega) (by omega)];rfl
  have e2:imul .u64 8 (iconv .u64 (irem (i:Int) 8))=((8*(i % 8):Nat):Int):=by
   rw[irem_0 (by omega)]
   unfold imul iconv
   rw[wrap_u64,wrap_u64,Int.emod_eq_of_lt (a:=(i:Int) % 8) (by omega) (by omega),Int.emod_eq_of_lt (by omega) (by omega)]
   omega
  rw[sL03Text_q3,ilt_t (by omega),cnd_t,show nz 8=true from rfl,cnd_t,e1,inb25 (by omega),cnd_t,cnd_t,e2,show nn ((8*(i % 8):Nat):Int)=true from decide_eq_true (by omega),cnd_t,inb_t (by omega) (by rw[len_d,List.length_append,bytesOf_len,List.length_replicate];omega),cnd_t,nx (by omega)]
  rw[show 200-i=(200- (i+1))+1 by omega,List.replicate_succ,bytesOf_succ]
  have:=upd_mid (bytesOf a i) (List.replicate (200- (i+1)) 0) 0 (byteV (rd 0 a ((i/8:Nat):Int)) (i % 8))
  rw[bytesOf_len] at this
  rw[List.append_assoc]
  refine Eq.trans ?_ (congrArg (fun l=>sL03Text_D3 (l,(((i+1:Nat):Int),(a,())))) this)
  rfl) 200 0 () rfl trivial).1.trans ?_
 rw[sL03Text_q3,ilt_f (by omega),cnd_f,show 200-200=0 from rfl,List.replicate_zero,List.append_nil]
 rfl
def padV (s:ByteArray):ByteArray:=
 let l:=sbytes s++1::List.replicate (135-s.size % 136) 0
 sof (upd l (isub .i64 (len l) 1) (ior .u8 (rd 0 l (isub .i64 (len l) 1)) 128))
theorem sbytes_len (s:ByteArray):(sbytes s).length=s.size:=by unfold sbytes;rw[List.length_map];exact Array.length_toList
theorem padV_size (s:ByteArray):(padV s).size=s.size+136-s.size % 136:=by
 have:=Nat.mod_lt s.size (show 136>0 by omega)
 unfold padV upd
 simp only[size_sof,List.length_set,List.length_append,List.length_cons,List.length_replicate,sbytes_len];omega
theorem sbytes_scat (x y:ByteArray):sbytes (scat x y)=sbytes x++sbytes y:=by simp [sbytes,scat,ByteArray.data_append]
theorem repeatL_rep (x:UInt8): ∀n,Lib.repeatL [x] n=List.replicate n x
 |0=>rfl
 |n+1=>by rw[Lib.repeatL,repeatL_rep x n];rfl
theorem sbytes_rep (n:Nat):sbytes (repeatB (bs [0]) n)=List.replicate n 0:=by
 show List.map _ (Lib.repeatL [0] n)=_
 rw[repeatL_rep,List.map_replicate];rfl
theorem repeatB_size (n:Nat):(repeatB (bs [0]) n).size=n:=by
 rw[←sbytes_len,sbytes_rep,List.length_replicate]
theorem iPad_l (s:ByteArray) (h:s.size≤268435456):iKeccakPad_d (s,())=some ((padV s,()),()):=by
 have hm:=Nat.mod_lt s.size (show 136>0 by omega)
 have e:isub .i64 135 (irem (ssz s) 136)=((135-s.size % 136:Nat):Int):=by
  rw[ssz_d,irem_0 (by omega),isub_64 (by omega) (by omega)];omega
 have er:g_strings_Repeat_d (bs [0],(((135-s.size % 136:Nat):Int),()))=some ((repeatB (bs [0]) (135-s.size % 136),()),()):=by
  have:=g_strings_Repeat_d.eq_1
  unfold g_strings_Repeat_d
  simp only
  rw[if_pos ⟨by omega,by omega,by rw[size_bs];simp⟩,Int.toNat_natCast]
 rw[iKeccakPad_b,show nz 136=true from rfl,cnd_t,cat_fits (by rw[size_bs];simp;omega),cnd_t,e,er,bnd_s,cat_fits (by rw[size_scat,size_bs,repeatB_size];simp;omega),cnd_t]
 have el:sbytes (scat (scat s (bs [1])) (repeatB (bs [0]) (135-s.size % 136)))=sbytes s++1::List.replicate (135-s.size % 136) 0:=by
  rw[sbytes_scat,sbytes_scat,sbytes_rep,List.append_assoc];rfl
 show cnd _ (cnd _ (some ((sof (upd (sbytes (scat (scat s (bs [1])) (repeatB (bs [0]) (135-s.size % 136)))) _ _),()),())) none) none=_
 rw[el]
 rw[inb_t (by rw[isub_64 (by simp [len_d];omega) (by simp [len_d,sbytes_len];omega)];simp [len_d];omega) (by rw[isub_64 (by simp [len_d];omega) (by simp [len_d,sbytes_len];omega)];omega),cnd_t,cnd_t]
 rfl
theorem sPad_loop: ∀ (k:Nat) (l:List Int),(l.length+k) % 136=0→k<136→l.length+k≤536870912→sKeccakPad_D3 (l,())=sKeccakPad_D3 (l++List.replicate k 0,())
 |0,l,h,hk,hl=>by rw[List.replicate_zero,List.append_nil]
 |k+1,l,h,hk,hl=>by
  rw[sKeccakPad_q3,show nz 136=true from rfl,cnd_t,len_d,irem_0 (by omega),show ine ((l.length:Int) % 136) 0=true by rw[ine_d,decide_eq_false (by omega)];rfl,cnd_t]
  rw[show fits ((l.length:Int)+len [(0:Int)]) 1=true from app_fits (xs:=l) (ys:=[(0:Int)]) (by decide) (by simp;omega),cnd_t]
  show sKeccakPad_D3 (l++[0],())=_
  have hl0:(l++[(0:Int)]).length=l.length+1:=by simp
  rw[sPad_loop k (l++[0]) (by rw[hl0];omega) (by omega) (by rw[hl0];omega),List.append_assoc]
  rfl
theorem sPad_l (s:ByteArray) (h:s.size≤268435456):sKeccakPad_d (s,())=some ((padV s,()),()):=by
 have hm:=Nat.mod_lt s.size (show 136>0 by omega)
 rw[sKeccakPad_b,app_fits (by decide) (by simp [sbytes_len];omega),cnd_t]
 show sKeccakPad_D3 (sbytes s++[1],())=_
 have hl:(sbytes s++[(1:Int)]).length=s.size+1:=by simp [sbytes_len]
 rw[sPad_loop (135-s.size % 136) (sbytes s++[1]) (by rw[hl];omega) (by omega) (by rw[hl];omega),List.append_assoc,sKeccakPad_q3,show nz 136=true from rfl,cnd_t]
 have hl2:(sbytes s++([1]++List.replicate (135-s.size % 136) (0:Int))).length=s.size+(136-s.size % 136):=by simp [sbytes_len];omega
 have e0:ine (irem (len (sbytes s++([1]++List.replicate (135-s.size % 136) (0:Int)))) 136) 0=false:=by
  rw[len_d,hl2,irem_0 (by omega),ine_d,decide_eq_true (by omega)];rfl
 rw[e0,cnd_f]
 have es:isub .i64 (len (sbytes s++([1]++List.replicate (135-s.size % 136) (0:Int)))) 1=((s.size+(135-s.size % 136):Nat):Int):=by
  rw[len_d,hl2,isub_64 (by omega) (by omega)];omega
 have ei:inb (isub .i64 (len (sbytes s++([1]++List.replicate (135-s.size % 136) (0:Int)))) 1) (len (sbytes s++([1]++List.replicate (135-s.size % 136) (0:Int))))=true:=by
  rw[es,len_d,hl2];exact inb_t (by omega) (by omega)
 rw[ei,cnd_t,cnd_t]
 rfl
def blockStep (p:ByteArray) (at':Int) (i:Nat) (a:List Int):List Int:=upd a (i:Int) (ixor .u64 (rd 0 a (i:Int)) (wordV p (at'+8*(i:Int))))
def blockV (p:ByteArray) (at':Int) (a:List Int):List Int:=rounds (iter (blockStep p at') 17 0 a)
def digestOf (p:ByteArray):ByteArray:=ssub (stateText (iter (fun j a=>blockV p ((136*j:Nat):Int) a) (p.size/136) 0 zero25)) 0 32
def digestV (s:ByteArray):ByteArray:=digestOf (padV s)
theorem digestV_size (s:ByteArray):(digestV s).size=32:=by
 unfold digestV digestOf ssub
 rw[ByteArray.size_extract,stateText_size];rfl
theorem iDigest_1 (p:ByteArray) (j:Nat) (a:List Int) (h:136*j+136≤p.size) (hp:p.size≤549755813888):iDigest_D7 (p,(((136*j:Nat):Int),(0,(a,()))))=iDigest_D4 (p,(((136*(j+1):Nat):Int),(blockV p ((136*j:Nat):Int) a,()))):=by
 refine (loop_to (D:=iDigest_D7) (st:=fun i a=>(p,(((136*j:Nat):Int),((i:Int),(a,()))))) (n:=17) (P:=fun _=>True) (step:=blockStep p ((136*j:Nat):Int)) (fun i a hi _=>by
  refine ⟨?_,trivial⟩
  rw[iDigest_q7,ilt_t (by omega),cnd_t,inb25 (by omega),cnd_t,imul_64 (by omega) (by omega),iadd_64 (by omega) (by omega),iWord_l _ _ (by omega) (by omega) (by omega),bnd_s,cnd_t,nx (by omega)]
  rfl) 17 0 a rfl trivial).1.trans ?_
 rw[iDigest_q7,ilt_f (by omega),cnd_f,iRounds_l,bnd_s,iadd_64 (by omega) (by omega)]
 rw[show ((136*j:Nat):Int)+136=((136*(j+1):Nat):Int) by omega,blockV]
theorem iDigest_l (s:ByteArray) (h:s.size≤268435456):iDigest_d (s,())=some ((digestV s,()),()):=by
 have hs:=padV_size s
 have hm:=Nat.mod_lt s.size (show 136>0 by omega)
 rw[iDigest_b,iPad_l s h,bnd_s]
 generalize hp:padV s=p at hs
 refine (loop_to (D:=iDigest_D4) (st:=fun j a=>(p,(((136*j:Nat):Int),(a,())))) (n:=p.size/136) (P:=fun _=>True) (step:=fun j a=>blockV p ((136*j:Nat):Int) a) (fun j a hj _=>by
  refine ⟨?_,trivial⟩
  rw[iDigest_q4,ilt_t (by rw[ssz_d];omega),cnd_t,iDigest_1 p j a (by omega) (by omega)]) (p.size/136) 0 zero25 (by omega) trivial).1.trans ?_
 rw[iDigest_q4,ilt_f (by rw[ssz_d];omega),cnd_f,iText_l,bnd_s,inb2_t (by omega) (by omega) (by rw[ssz_d,stateText_size];omega),cnd_t,digestV,hp]
 rfl
theorem sDigest_1 (p:ByteArray) (j:Nat) (a:List Int) (h:136*j+136≤p.size) (hp:p.size≤549755813888):sDigest_D7 (p,(((136*j:Nat):Int),(0,(a,()))))=sDigest_D4 (p,(((136*(j+1):Nat):Int),(blockV p ((136*j:Nat):Int) a,()))):=by
 refine (loop_to (D:=sDigest_D7) (st:=fun i a=>(p,(((136*j:Nat):Int),((i:Int),(a,()))))) (n:=17) (P:=fun _=>True) (step:=blockStep p ((136*j:Nat):Int)) (fun i a hi _=>by
  refine ⟨?_,trivial⟩
  rw[sDigest_q7,ilt_t (by omega),cnd_t,inb25 (by omega),cnd_t,imul_64 (by omega) (by omega),iadd_64 (by omega) (by omega),sWord_l _ _ (by omega) (by omega) (by omega),bnd_s,cnd_t,nx (by omega)]
  rfl) 17 0 a rfl trivial).1.trans ?_
 rw[sDigest_q7,ilt_f (by omega),cnd_f,sAll_l,bnd_s,iadd_64 (by omega) (by omega)]
 rw[show ((136*j:Nat):Int)+136=((136*(j+1):Nat):Int) by omega,blockV]
theorem sDigest_l (s:ByteArray) (h:s.size≤268435456):sDigest_d (s,())=some ((digestV s,()),()):=by
 have hs:=padV_size s
 have hm:=Nat.mod_lt s.size (show 136>0 by omega)
 rw[sDigest_b,sPad_l s h,bnd_s]
 generalize hp:padV s=p at hs
 refine (loop_to (D:=sDigest_D4) (st:=fun j a=>(p,(((136*j:Nat):Int),(a,())))) (n:=p.size/136) (P:=fun _=>True) (step:=fun j a=>blockV p ((136*j:Nat):Int) a) (fun j a hj _=>by
  refine ⟨?_,trivial⟩
  rw[sDigest_q4,ilt_t (by rw[ssz_d];omega),cnd_t,sDigest_1 p j a (by omega) (by omega)]) (p.size/136) 0 zero25 (by omega) trivial).1.trans ?_
 rw[sDigest_q4,ilt_f (by rw[ssz_d];omega),cnd_f,sText_l,bnd_s,inb2_t (by omega) (by omega) (by rw[ssz_d,stateText_size];omega),cnd_t,digestV,hp]
 rfl
end Go.Proofs.YtoeiajpklkijgaaGreatDoor
