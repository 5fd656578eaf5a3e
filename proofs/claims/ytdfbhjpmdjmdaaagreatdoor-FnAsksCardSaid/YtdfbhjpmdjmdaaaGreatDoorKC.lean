/- Digests: words, blocks, texts. Of no condition. -/
import Derived.Test.YtdfbhjpmdjmdaaaGreatDoorKB
set_option linter.unusedVariables false
set_option linter.unusedSimpArgs false
set_option maxRecDepth 100000
namespace Go.Proofs.YtdfbhjpmdjmdaaaGreatDoor
open Go.TV
def BzQ (s:ByteArray) (p:Int) (k:Nat) (n:Int):Int:=ior .u64 (ishl .u64 n 8) (azx .u64 (sat s (p+(7- (k:Int)))))
def Qzo (s:ByteArray) (p:Int):Int:=iter (BzQ s p) 8 0 0
theorem QzI (s:ByteArray) (p:Int) (h0:0≤p) (h1:p+8≤(s.size:Int)) (h2:s.size≤1099511627776):rz4 (s,(p,()))=some ((Qzo s p,()),()):=by
 rw[MzS]
 refine (bz8 (D:=pzo) (st:=fun k n=>(s,(p,(n,(7- (k:Int),()))))) (n:=8) (P:=fun _=>True) (step:=BzQ s p) (fun k n hk _=>by
  refine ⟨?_,trivial⟩
  rw[zzr,show ige (7- (k:Int)) 0=true from decide_eq_true (by omega),aza,show nn 8=true from rfl,aza,azH (by omega) (by omega),bzI (by omega) (by rw[azN];omega),aza,bzi (by omega) (by omega),show (7:Int)-k-1=7- ((k+1:Nat):Int) by omega]
  rfl) 8 0 0 rfl trivial).1.trans ?_
 rw[zzr,show ige (7- ((8:Nat):Int)) 0=false from rfl,azc]
 rfl
theorem QzS (s:ByteArray) (p:Int) (h0:0≤p) (h1:p+8≤(s.size:Int)) (h2:s.size≤1099511627776):pzH (s,(p,()))=some ((Qzo s p,()),()):=by
 rw[JzO]
 refine (bz8 (D:=mzG) (st:=fun k n=>(s,(p,(n,(7- (k:Int),()))))) (n:=8) (P:=fun _=>True) (step:=BzQ s p) (fun k n hk _=>by
  refine ⟨?_,trivial⟩
  rw[wzE,show ige (7- (k:Int)) 0=true from decide_eq_true (by omega),aza,show nn 8=true from rfl,aza,azH (by omega) (by omega),bzI (by omega) (by rw[azN];omega),aza,bzi (by omega) (by omega),show (7:Int)-k-1=7- ((k+1:Nat):Int) by omega]
  rfl) 8 0 0 rfl trivial).1.trans ?_
 rw[wzE,show ige (7- ((8:Nat):Int)) 0=false from rfl,azc]
 rfl
def EzD (w:Int) (k:Nat):Int:=azx .u8 (ishr .u64 w ((8*k:Nat):Int))
def gzN (a:List Int) (n:Nat):List Int:=(List.range n).map fun i=>EzD (rd 0 a ((i/8:Nat):Int)) (i % 8)
theorem uzQ (a:List Int) (n:Nat):gzN a (n+1)=gzN a n++[EzD (rd 0 a ((n/8:Nat):Int)) (n % 8)]:=by
 unfold gzN;rw[List.range_succ,List.map_append];rfl
theorem mzV (a:List Int) (n:Nat):(gzN a n).length=n:=by simp [gzN]
def ozd (a:List Int):ByteArray:=sof (gzN a 200)
theorem kz1 (a:List Int):(ozd a).size=200:=by rw[ozd,azK,mzV]
theorem ishr_0 (w:Int):ishr .u64 w 0=w:=by
 unfold ishr
 rw[show (2:Int)^ (min (0:Int).toNat IntKind.u64.bits)=1 from rfl,Int.fdiv_one]
theorem ishr_8 (w:Int) (k:Nat) (hk:k<8):ishr .u64 (ishr .u64 w ((8*k:Nat):Int)) 8=ishr .u64 w ((8*(k+1):Nat):Int):=by
 unfold ishr
 rw[show (min (8:Int).toNat IntKind.u64.bits)=8 from rfl]
 have e1:min (((8*k:Nat):Int)).toNat IntKind.u64.bits=8*k:=by rw[Int.toNat_natCast];exact Nat.min_eq_left (show 8*k≤64 by omega)
 have e2:min (((8*(k+1):Nat):Int)).toNat IntKind.u64.bits=8*k+8:=by rw[Int.toNat_natCast];exact Nat.min_eq_left (show 8*(k+1)≤64 by omega)
 rw[e1,e2,Int.pow_add]
 have hp:(0:Int)≤2^ (8*k):=Int.le_of_lt (Int.pow_pos (by decide))
 rw[Int.fdiv_eq_ediv_of_nonneg _ hp,Int.fdiv_eq_ediv_of_nonneg _ (by decide),Int.fdiv_eq_ediv_of_nonneg _ (Int.mul_nonneg hp (by decide)),Int.ediv_ediv_of_nonneg hp]
theorem Oz1 (b:List Int) (w:Int) (hb:b.length≤1000):kzJ (b,(w,()))=some ((b++(List.range 8).map (EzD w),()),()):=by
 rw[CzV]
 have st:=(bz8 (D:=dz9) (st:=fun k (_:Unit)=>(b++(List.range k).map (EzD w),(ishr .u64 w ((8*k:Nat):Int),((k:Int),())))) (n:=8) (P:=fun _=>True) (step:=fun _ u=>u) (fun k _ hk _=>by
  refine ⟨?_,trivial⟩
  rw[rzV,bzW (by omega),aza,azv (by decide) (by simp;omega),aza,show nn 8=true from rfl,aza,ishr_8 _ _ hk,nx (by omega),List.range_succ,List.map_append,←List.append_assoc]
  rfl) 8 0 () rfl trivial).1
 have e:dz9 (b,(w,(0,())))=dz9 (b++(List.range 0).map (EzD w),(ishr .u64 w ((8*0:Nat):Int),(((0:Nat):Int),()))):=by
  rw[show ((8*0:Nat):Int)=0 from rfl,ishr_0,List.range_zero,List.map_nil,List.append_nil]
 rw[e]
 refine st.trans ?_
 rw[rzV,az7 (by omega),azc]
theorem CzS (a:List Int) (i:Nat):gzN a (8*i)++(List.range 8).map (EzD (rd 0 a (i:Int)))=gzN a (8*(i+1)):=by
 have h: ∀k,k<8→gzN a (8*i+(k+1))=gzN a (8*i+k)++[EzD (rd 0 a (i:Int)) k]:=by
  intro k hk
  rw[←Nat.add_assoc,uzQ,show (8*i+k)/8=i by omega,show (8*i+k) % 8=k by omega]
 rw[show 8*(i+1)=8*i+8 by omega,h 7 (by omega),h 6 (by omega),h 5 (by omega),h 4 (by omega),h 3 (by omega),h 2 (by omega),h 1 (by omega),h 0 (by omega)]
 simp only[List.append_assoc]
 rfl
theorem Qz4 (a:List Int):hzl (a,())=some ((ozd a,()),(a,())):=by
 rw[yz5,show both (inb2 0 0 200) (fits 200 1)=true by kernel_rfl,aza]
 refine (bz8 (D:=gzc) (st:=fun i (_:Unit)=>(gzN a (8*i),((i:Int),(a,())))) (n:=25) (P:=fun _=>True) (step:=fun _ u=>u) (fun i _ hi _=>by
  refine ⟨?_,trivial⟩
  rw[ozv,bzW (by omega),aza,izm hi,aza,Oz1 _ _ (by rw[mzV];omega),azd,nx (by omega),CzS]) 25 0 () rfl trivial).1.trans ?_
 rw[ozv,az7 (by omega),azc]
 rfl
theorem QzD {α:Type} (l r:List α) (x y:α):upd (l++x::r) (l.length:Int) y=l++y::r:=by simp [upd]
theorem Qz8 (a:List Int):pzx (a,())=some ((ozd a,()),()):=by
 rw[Jze,show both (inb2 0 200 200) (fits 200 1)=true by kernel_rfl,aza]
 refine (bz8 (D:=jzE) (st:=fun i (_:Unit)=>(gzN a i++List.replicate (200-i) 0,((i:Int),(a,())))) (n:=200) (P:=fun _=>True) (step:=fun _ u=>u) (fun i _ hi _=>by
  refine ⟨?_,trivial⟩
  have h8:=Nat.mod_lt i (show 8>0 by omega)
  have e1:iquo .i64 (i:Int) 8=((i/8:Nat):Int):=by rw[tzN (by omega) (by omega) (by omega)];rfl
  have e2:imul .u64 8 (azx .u64 (irem (i:Int) 8))=((8*(i % 8):Nat):Int):=by
   rw[fzW (by omega)]
   unfold imul azx
   rw[pzu,pzu,Int.emod_eq_of_lt (a:=(i:Int) % 8) (by omega) (by omega),Int.emod_eq_of_lt (by omega) (by omega)]
   omega
  rw[xzZ,bzW (by omega),aza,show nz 8=true from rfl,aza,e1,izm (by omega),aza,aza,e2,show nn ((8*(i % 8):Nat):Int)=true from decide_eq_true (by omega),aza,bzI (by omega) (by rw[azA,List.length_append,mzV,List.length_replicate];omega),aza,nx (by omega)]
  rw[show 200-i=(200- (i+1))+1 by omega,List.replicate_succ,uzQ]
  have:=QzD (gzN a i) (List.replicate (200- (i+1)) 0) 0 (EzD (rd 0 a ((i/8:Nat):Int)) (i % 8))
  rw[mzV] at this
  rw[List.append_assoc]
  refine Eq.trans ?_ (congrArg (fun l=>jzE (l,(((i+1:Nat):Int),(a,())))) this)
  rfl) 200 0 () rfl trivial).1.trans ?_
 rw[xzZ,az7 (by omega),azc,show 200-200=0 from rfl,List.replicate_zero,List.append_nil]
 rfl
def padV (s:ByteArray):ByteArray:=
 let l:=bzv s++1::List.replicate (135-s.size % 136) 0
 sof (upd l (isub .i64 (len l) 1) (ior .u8 (rd 0 l (isub .i64 (len l) 1)) 128))
theorem gz5 (s:ByteArray):(bzv s).length=s.size:=by unfold bzv;rw[List.length_map];exact Array.length_toList
theorem DzI (s:ByteArray):(padV s).size=s.size+136-s.size % 136:=by
 have:=Nat.mod_lt s.size (show 136>0 by omega)
 unfold padV upd
 simp only[azK,List.length_set,List.length_append,List.length_cons,List.length_replicate,gz5];omega
theorem wzD (x y:ByteArray):bzv (scat x y)=bzv x++bzv y:=by simp [bzv,scat,ByteArray.data_append]
theorem xzG (x:UInt8): ∀n,Lib.repeatL [x] n=List.replicate n x
 |0=>rfl
 |n+1=>by rw[Lib.repeatL,xzG x n];rfl
theorem Azn (n:Nat):bzv (rzp (bs [0]) n)=List.replicate n 0:=by
 show List.map _ (Lib.repeatL [0] n)=_
 rw[xzG,List.map_replicate];rfl
theorem DzB (n:Nat):(rzp (bs [0]) n).size=n:=by
 rw[←gz5,Azn,List.length_replicate]
theorem iPad_l (s:ByteArray) (h:s.size≤268435456):kzI (s,())=some ((padV s,()),()):=by
 have hm:=Nat.mod_lt s.size (show 136>0 by omega)
 have e:isub .i64 135 (irem (ssz s) 136)=((135-s.size % 136:Nat):Int):=by
  rw[azN,fzW (by omega),bzi (by omega) (by omega)];omega
 have er:czC (bs [0],(((135-s.size % 136:Nat):Int),()))=some ((rzp (bs [0]) (135-s.size % 136),()),()):=by
  have:=czC.eq_1
  unfold czC
  simp only
  rw[if_pos ⟨by omega,by omega,by rw[gzq];simp⟩,Int.toNat_natCast]
 rw[Ezk,show nz 136=true from rfl,aza,ezs (by rw[gzq];simp;omega),aza,e,er,azd,ezs (by rw[azu,gzq,DzB];simp;omega),aza]
 have el:bzv (scat (scat s (bs [1])) (rzp (bs [0]) (135-s.size % 136)))=bzv s++1::List.replicate (135-s.size % 136) 0:=by
  rw[wzD,wzD,Azn,List.append_assoc];rfl
 show cnd _ (cnd _ (some ((sof (upd (bzv (scat (scat s (bs [1])) (rzp (bs [0]) (135-s.size % 136)))) _ _),()),())) none) none=_
 rw[el]
 rw[bzI (by rw[bzi (by simp [azA];omega) (by simp [azA,gz5];omega)];simp [azA];omega) (by rw[bzi (by simp [azA];omega) (by simp [azA,gz5];omega)];omega),aza,aza]
 rfl
theorem EzT: ∀ (k:Nat) (l:List Int),(l.length+k) % 136=0→k<136→l.length+k≤536870912→cz7 (l,())=cz7 (l++List.replicate k 0,())
 |0,l,h,hk,hl=>by rw[List.replicate_zero,List.append_nil]
 |k+1,l,h,hk,hl=>by
  rw[tzf,show nz 136=true from rfl,aza,azA,fzW (by omega),show ine ((l.length:Int) % 136) 0=true by rw[czY,decide_eq_false (by omega)];rfl,aza]
  rw[show fits ((l.length:Int)+len [(0:Int)]) 1=true from azv (xs:=l) (ys:=[(0:Int)]) (by decide) (by simp;omega),aza]
  show cz7 (l++[0],())=_
  have hl0:(l++[(0:Int)]).length=l.length+1:=by simp
  rw[EzT k (l++[0]) (by rw[hl0];omega) (by omega) (by rw[hl0];omega),List.append_assoc]
  rfl
theorem sPad_l (s:ByteArray) (h:s.size≤268435456):kzO (s,())=some ((padV s,()),()):=by
 have hm:=Nat.mod_lt s.size (show 136>0 by omega)
 rw[Eza,azv (by decide) (by simp [gz5];omega),aza]
 show cz7 (bzv s++[1],())=_
 have hl:(bzv s++[(1:Int)]).length=s.size+1:=by simp [gz5]
 rw[EzT (135-s.size % 136) (bzv s++[1]) (by rw[hl];omega) (by omega) (by rw[hl];omega),List.append_assoc,tzf,show nz 136=true from rfl,aza]
 have hl2:(bzv s++([1]++List.replicate (135-s.size % 136) (0:Int))).length=s.size+(136-s.size % 136):=by simp [gz5];omega
 have e0:ine (irem (len (bzv s++([1]++List.replicate (135-s.size % 136) (0:Int)))) 136) 0=false:=by
  rw[azA,hl2,fzW (by omega),czY,decide_eq_true (by omega)];rfl
 rw[e0,azc]
 have es:isub .i64 (len (bzv s++([1]++List.replicate (135-s.size % 136) (0:Int)))) 1=((s.size+(135-s.size % 136):Nat):Int):=by
  rw[azA,hl2,bzi (by omega) (by omega)];omega
 have ei:inb (isub .i64 (len (bzv s++([1]++List.replicate (135-s.size % 136) (0:Int)))) 1) (len (bzv s++([1]++List.replicate (135-s.size % 136) (0:Int))))=true:=by
  rw[es,azA,hl2];exact bzI (by omega) (by omega)
 rw[ei,aza,aza]
 rfl
def wzq (p:ByteArray) (at':Int) (i:Nat) (a:List Int):List Int:=upd a (i:Int) (ixor .u64 (rd 0 a (i:Int)) (Qzo p (at'+8*(i:Int))))
def yzj (p:ByteArray) (at':Int) (a:List Int):List Int:=Dzy (iter (wzq p at') 17 0 a)
def GzD (p:ByteArray):ByteArray:=ssub (ozd (iter (fun j a=>yzj p ((136*j:Nat):Int) a) (p.size/136) 0 vze)) 0 32
def azo (s:ByteArray):ByteArray:=GzD (padV s)
theorem azD (s:ByteArray):(azo s).size=32:=by
 unfold azo GzD ssub
 rw[ByteArray.size_extract,kz1];rfl
theorem Mzu (p:ByteArray) (j:Nat) (a:List Int) (h:136*j+136≤p.size) (hp:p.size≤549755813888):lzF (p,(((136*j:Nat):Int),(0,(a,()))))=lzq (p,(((136*(j+1):Nat):Int),(yzj p ((136*j:Nat):Int) a,()))):=by
 refine (bz8 (D:=lzF) (st:=fun i a=>(p,(((136*j:Nat):Int),((i:Int),(a,()))))) (n:=17) (P:=fun _=>True) (step:=wzq p ((136*j:Nat):Int)) (fun i a hi _=>by
  refine ⟨?_,trivial⟩
  rw[zzI,bzW (by omega),aza,izm (by omega),aza,fz9 (by omega) (by omega),azH (by omega) (by omega),QzI _ _ (by omega) (by omega) (by omega),azd,aza,nx (by omega)]
  rfl) 17 0 a rfl trivial).1.trans ?_
 rw[zzI,az7 (by omega),azc,Nzc,azd,azH (by omega) (by omega)]
 rw[show ((136*j:Nat):Int)+136=((136*(j+1):Nat):Int) by omega,yzj]
theorem hz9 (s:ByteArray) (h:s.size≤268435456):dzg (s,())=some ((azo s,()),()):=by
 have hs:=DzI s
 have hm:=Nat.mod_lt s.size (show 136>0 by omega)
 rw[Lzc,iPad_l s h,azd]
 generalize hp:padV s=p at hs
 refine (bz8 (D:=lzq) (st:=fun j a=>(p,(((136*j:Nat):Int),(a,())))) (n:=p.size/136) (P:=fun _=>True) (step:=fun j a=>yzj p ((136*j:Nat):Int) a) (fun j a hj _=>by
  refine ⟨?_,trivial⟩
  rw[zzQ,bzW (by rw[azN];omega),aza,Mzu p j a (by omega) (by omega)]) (p.size/136) 0 vze (by omega) trivial).1.trans ?_
 rw[zzQ,az7 (by rw[azN];omega),azc,Qz4,azd,bzu (by omega) (by omega) (by rw[azN,kz1];omega),aza,azo,hp]
 rfl
theorem Lzg (p:ByteArray) (j:Nat) (a:List Int) (h:136*j+136≤p.size) (hp:p.size≤549755813888):lzt (p,(((136*j:Nat):Int),(0,(a,()))))=lzP (p,(((136*(j+1):Nat):Int),(yzj p ((136*j:Nat):Int) a,()))):=by
 refine (bz8 (D:=lzt) (st:=fun i a=>(p,(((136*j:Nat):Int),((i:Int),(a,()))))) (n:=17) (P:=fun _=>True) (step:=wzq p ((136*j:Nat):Int)) (fun i a hi _=>by
  refine ⟨?_,trivial⟩
  rw[Azu,bzW (by omega),aza,izm (by omega),aza,fz9 (by omega) (by omega),azH (by omega) (by omega),QzS _ _ (by omega) (by omega) (by omega),azd,aza,nx (by omega)]
  rfl) 17 0 a rfl trivial).1.trans ?_
 rw[Azu,az7 (by omega),azc,sAll_l,azd,azH (by omega) (by omega)]
 rw[show ((136*j:Nat):Int)+136=((136*(j+1):Nat):Int) by omega,yzj]
theorem ezE (s:ByteArray) (h:s.size≤268435456):czT (s,())=some ((azo s,()),()):=by
 have hs:=DzI s
 have hm:=Nat.mod_lt s.size (show 136>0 by omega)
 rw[Lzu,sPad_l s h,azd]
 generalize hp:padV s=p at hs
 refine (bz8 (D:=lzP) (st:=fun j a=>(p,(((136*j:Nat):Int),(a,())))) (n:=p.size/136) (P:=fun _=>True) (step:=fun j a=>yzj p ((136*j:Nat):Int) a) (fun j a hj _=>by
  refine ⟨?_,trivial⟩
  rw[Azv,bzW (by rw[azN];omega),aza,Lzg p j a (by omega) (by omega)]) (p.size/136) 0 vze (by omega) trivial).1.trans ?_
 rw[Azv,az7 (by rw[azN];omega),azc,Qz8,azd,bzu (by omega) (by omega) (by rw[azN,kz1];omega),aza,azo,hp]
 rfl
end Go.Proofs.YtdfbhjpmdjmdaaaGreatDoor
