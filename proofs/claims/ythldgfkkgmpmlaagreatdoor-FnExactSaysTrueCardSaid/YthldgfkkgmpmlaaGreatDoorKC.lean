/- Digests: words, blocks, texts. Of no condition. -/
import Derived.Test.YthldgfkkgmpmlaaGreatDoorKB
set_option linter.unusedVariables false
set_option linter.unusedSimpArgs false
set_option maxRecDepth 100000
namespace Go.Proofs.YthldgfkkgmpmlaaGreatDoor
open Go.TV
def GzR (s:ByteArray) (p:Int) (k:Nat) (n:Int):Int:=ior .u64 (ishl .u64 n 8) (azx .u64 (sat s (p+(7- (k:Int)))))
def Wze (s:ByteArray) (p:Int):Int:=iter (GzR s p) 8 0 0
theorem WzX (s:ByteArray) (p:Int) (h0:0≤p) (h1:p+8≤(s.size:Int)) (h2:s.size≤1099511627776):wzy (s,(p,()))=some ((Wze s p,()),()):=by
 rw[Rzc]
 refine (bz4 (D:=szr) (st:=fun k n=>(s,(p,(n,(7- (k:Int),()))))) (n:=8) (P:=fun _=>True) (step:=GzR s p) (fun k n hk _=>by
  refine ⟨?_,trivial⟩
  rw[Ezd,show ige (7- (k:Int)) 0=true from decide_eq_true (by omega),aza,show nn 8=true from rfl,aza,azA (by omega) (by omega),bz0 (by omega) (by rw[azL];omega),aza,az4 (by omega) (by omega),show (7:Int)-k-1=7- ((k+1:Nat):Int) by omega]
  rfl) 8 0 0 rfl trivial).1.trans ?_
 rw[Ezd,show ige (7- ((8:Nat):Int)) 0=false from rfl,azc]
 rfl
theorem WzC (s:ByteArray) (p:Int) (h0:0≤p) (h1:p+8≤(s.size:Int)) (h2:s.size≤1099511627776):rzm (s,(p,()))=some ((Wze s p,()),()):=by
 rw[PzV]
 refine (bz4 (D:=nz0) (st:=fun k n=>(s,(p,(n,(7- (k:Int),()))))) (n:=8) (P:=fun _=>True) (step:=GzR s p) (fun k n hk _=>by
  refine ⟨?_,trivial⟩
  rw[BzP,show ige (7- (k:Int)) 0=true from decide_eq_true (by omega),aza,show nn 8=true from rfl,aza,azA (by omega) (by omega),bz0 (by omega) (by rw[azL];omega),aza,az4 (by omega) (by omega),show (7:Int)-k-1=7- ((k+1:Nat):Int) by omega]
  rfl) 8 0 0 rfl trivial).1.trans ?_
 rw[BzP,show ige (7- ((8:Nat):Int)) 0=false from rfl,azc]
 rfl
def IzG (w:Int) (k:Nat):Int:=azx .u8 (ishr .u64 w ((8*k:Nat):Int))
def gz7 (a:List Int) (n:Nat):List Int:=(List.range n).map fun i=>IzG (rd 0 a ((i/8:Nat):Int)) (i % 8)
theorem yzE (a:List Int) (n:Nat):gz7 a (n+1)=gz7 a n++[IzG (rd 0 a ((n/8:Nat):Int)) (n % 8)]:=by
 unfold gz7;rw[List.range_succ,List.map_append];rfl
theorem oza (a:List Int) (n:Nat):(gz7 a n).length=n:=by simp [gz7]
def qzD (a:List Int):ByteArray:=sof (gz7 a 200)
theorem mzk (a:List Int):(qzD a).size=200:=by rw[qzD,azI,oza]
theorem ishr_0 (w:Int):ishr .u64 w 0=w:=by
 unfold ishr
 rw[show (2:Int)^ (min (0:Int).toNat IntKind.u64.bits)=1 from rfl,Int.fdiv_one]
theorem ishr_8 (w:Int) (k:Nat) (hk:k<8):ishr .u64 (ishr .u64 w ((8*k:Nat):Int)) 8=ishr .u64 w ((8*(k+1):Nat):Int):=by
 unfold ishr
 rw[show (min (8:Int).toNat IntKind.u64.bits)=8 from rfl]
 have e1:min (((8*k:Nat):Int)).toNat IntKind.u64.bits=8*k:=by rw[Int.toNat_natCast];exact Nat.min_eq_left (show 8*k≤64 by omega)
 have e2:min (((8*(k+1):Nat):Int)).toNat IntKind.u64.bits=8*k+8:=by rw[Int.toNat_natCast];exact Nat.min_eq_left (show 8*(k+1)≤64 by omega)
 rw[e1,e2,Int.pow_add]
 have hp:(0:Int)≤2^ (8*k):=Int.le_of_lt (Int.pow_pos (by decide))
 rw[Int.fdiv_eq_ediv_of_nonneg _ hp,Int.fdiv_eq_ediv_of_nonneg _ (by decide),Int.fdiv_eq_ediv_of_nonneg _ (Int.mul_nonneg hp (by decide)),Int.ediv_ediv_of_nonneg hp]
theorem UzP (b:List Int) (w:Int) (hb:b.length≤1000):lzo (b,(w,()))=some ((b++(List.range 8).map (IzG w),()),()):=by
 rw[Jzt]
 have st:=(bz4 (D:=ezv) (st:=fun k (_:Unit)=>(b++(List.range k).map (IzG w),(ishr .u64 w ((8*k:Nat):Int),((k:Int),())))) (n:=8) (P:=fun _=>True) (step:=fun _ u=>u) (fun k _ hk _=>by
  refine ⟨?_,trivial⟩
  rw[uzy,bzT (by omega),aza,azv (by decide) (by simp;omega),aza,show nn 8=true from rfl,aza,ishr_8 _ _ hk,nx (by omega),List.range_succ,List.map_append,←List.append_assoc]
  rfl) 8 0 () rfl trivial).1
 have e:ezv (b,(w,(0,())))=ezv (b++(List.range 0).map (IzG w),(ishr .u64 w ((8*0:Nat):Int),(((0:Nat):Int),()))):=by
  rw[show ((8*0:Nat):Int)=0 from rfl,ishr_0,List.range_zero,List.map_nil,List.append_nil]
 rw[e]
 refine st.trans ?_
 rw[uzy,az0 (by omega),azc]
theorem JzA (a:List Int) (i:Nat):gz7 a (8*i)++(List.range 8).map (IzG (rd 0 a (i:Int)))=gz7 a (8*(i+1)):=by
 have h: ∀k,k<8→gz7 a (8*i+(k+1))=gz7 a (8*i+k)++[IzG (rd 0 a (i:Int)) k]:=by
  intro k hk
  rw[←Nat.add_assoc,yzE,show (8*i+k)/8=i by omega,show (8*i+k) % 8=k by omega]
 rw[show 8*(i+1)=8*i+8 by omega,h 7 (by omega),h 6 (by omega),h 5 (by omega),h 4 (by omega),h 3 (by omega),h 2 (by omega),h 1 (by omega),h 0 (by omega)]
 simp only[List.append_assoc]
 rfl
theorem Wzy (a:List Int):hz5 (a,())=some ((qzD a,()),(a,())):=by
 rw[Dzk,show both (inb2 0 0 200) (fits 200 1)=true by kernel_rfl,aza]
 refine (bz4 (D:=gzw) (st:=fun i (_:Unit)=>(gz7 a (8*i),((i:Int),(a,())))) (n:=25) (P:=fun _=>True) (step:=fun _ u=>u) (fun i _ hi _=>by
  refine ⟨?_,trivial⟩
  rw[qzX,bzT (by omega),aza,jzd hi,aza,UzP _ _ (by rw[oza];omega),azb,nx (by omega),JzA]) 25 0 () rfl trivial).1.trans ?_
 rw[qzX,az0 (by omega),azc]
 rfl
theorem Wz0 {α:Type} (l r:List α) (x y:α):upd (l++x::r) (l.length:Int) y=l++y::r:=by simp [upd]
theorem Xzc (a:List Int):rzk (a,())=some ((qzD a,()),()):=by
 rw[Pzu,show both (inb2 0 200 200) (fits 200 1)=true by kernel_rfl,aza]
 refine (bz4 (D:=lzh) (st:=fun i (_:Unit)=>(gz7 a i++List.replicate (200-i) 0,((i:Int),(a,())))) (n:=200) (P:=fun _=>True) (step:=fun _ u=>u) (fun i _ hi _=>by
  refine ⟨?_,trivial⟩
  have h8:=Nat.mod_lt i (show 8>0 by omega)
  have e1:iquo .i64 (i:Int) 8=((i/8:Nat):Int):=by rw[nzM (by omega) (by omega) (by omega)];rfl
  have e2:imul .u64 8 (azx .u64 (irem (i:Int) 8))=((8*(i % 8):Nat):Int):=by
   rw[izS (by omega)]
   unfold imul azx
   rw[rz1,rz1,Int.emod_eq_of_lt (a:=(i:Int) % 8) (by omega) (by omega),Int.emod_eq_of_lt (by omega) (by omega)]
   omega
  rw[AzV,bzT (by omega),aza,show nz 8=true from rfl,aza,e1,jzd (by omega),aza,aza,e2,show nn ((8*(i % 8):Nat):Int)=true from decide_eq_true (by omega),aza,bz0 (by omega) (by rw[azz,List.length_append,oza,List.length_replicate];omega),aza,nx (by omega)]
  rw[show 200-i=(200- (i+1))+1 by omega,List.replicate_succ,yzE]
  have:=Wz0 (gz7 a i) (List.replicate (200- (i+1)) 0) 0 (IzG (rd 0 a ((i/8:Nat):Int)) (i % 8))
  rw[oza] at this
  rw[List.append_assoc]
  refine Eq.trans ?_ (congrArg (fun l=>lzh (l,(((i+1:Nat):Int),(a,())))) this)
  rfl) 200 0 () rfl trivial).1.trans ?_
 rw[AzV,az0 (by omega),azc,show 200-200=0 from rfl,List.replicate_zero,List.append_nil]
 rfl
def padV (s:ByteArray):ByteArray:=
 let l:=bzn s++1::List.replicate (135-s.size % 136) 0
 sof (upd l (isub .i64 (len l) 1) (ior .u8 (rd 0 l (isub .i64 (len l) 1)) 128))
theorem hzf (s:ByteArray):(bzn s).length=s.size:=by unfold bzn;rw[List.length_map];exact Array.length_toList
theorem Hzt (s:ByteArray):(padV s).size=s.size+136-s.size % 136:=by
 have:=Nat.mod_lt s.size (show 136>0 by omega)
 unfold padV upd
 simp only[azI,List.length_set,List.length_append,List.length_cons,List.length_replicate,hzf];omega
theorem Bzc (x y:ByteArray):bzn (scat x y)=bzn x++bzn y:=by simp [bzn,scat,ByteArray.data_append]
theorem Azk (x:UInt8): ∀n,Lib.repeatL [x] n=List.replicate n x
 |0=>rfl
 |n+1=>by rw[Lib.repeatL,Azk x n];rfl
theorem Dz9 (n:Nat):bzn (tzm (bs [0]) n)=List.replicate n 0:=by
 show List.map _ (Lib.repeatL [0] n)=_
 rw[Azk,List.map_replicate];rfl
theorem Hz0 (n:Nat):(tzm (bs [0]) n).size=n:=by
 rw[←hzf,Dz9,List.length_replicate]
theorem iPad_l (s:ByteArray) (h:s.size≤268435456):lzL (s,())=some ((padV s,()),()):=by
 have hm:=Nat.mod_lt s.size (show 136>0 by omega)
 have e:isub .i64 135 (irem (ssz s) 136)=((135-s.size % 136:Nat):Int):=by
  rw[azL,izS (by omega),az4 (by omega) (by omega)];omega
 have er:czB (bs [0],(((135-s.size % 136:Nat):Int),()))=some ((tzm (bs [0]) (135-s.size % 136),()),()):=by
  have:=czB.eq_1
  unfold czB
  simp only
  rw[if_pos ⟨by omega,by omega,by rw[mzr];simp⟩,Int.toNat_natCast]
 rw[Izk,show nz 136=true from rfl,aza,ezn (by rw[mzr];simp;omega),aza,e,er,azb,ezn (by rw[azw,mzr,Hz0];simp;omega),aza]
 have el:bzn (scat (scat s (bs [1])) (tzm (bs [0]) (135-s.size % 136)))=bzn s++1::List.replicate (135-s.size % 136) 0:=by
  rw[Bzc,Bzc,Dz9,List.append_assoc];rfl
 show cnd _ (cnd _ (some ((sof (upd (bzn (scat (scat s (bs [1])) (tzm (bs [0]) (135-s.size % 136)))) _ _),()),())) none) none=_
 rw[el]
 rw[bz0 (by rw[az4 (by simp [azz];omega) (by simp [azz,hzf];omega)];simp [azz];omega) (by rw[az4 (by simp [azz];omega) (by simp [azz,hzf];omega)];omega),aza,aza]
 rfl
theorem Jz2: ∀ (k:Nat) (l:List Int),(l.length+k) % 136=0→k<136→l.length+k≤536870912→cz7 (l,())=cz7 (l++List.replicate k 0,())
 |0,l,h,hk,hl=>by rw[List.replicate_zero,List.append_nil]
 |k+1,l,h,hk,hl=>by
  rw[vzt,show nz 136=true from rfl,aza,azz,izS (by omega),show ine ((l.length:Int) % 136) 0=true by rw[dzb,decide_eq_false (by omega)];rfl,aza]
  rw[show fits ((l.length:Int)+len [(0:Int)]) 1=true from azv (xs:=l) (ys:=[(0:Int)]) (by decide) (by simp;omega),aza]
  show cz7 (l++[0],())=_
  have hl0:(l++[(0:Int)]).length=l.length+1:=by simp
  rw[Jz2 k (l++[0]) (by rw[hl0];omega) (by omega) (by rw[hl0];omega),List.append_assoc]
  rfl
theorem sPad_l (s:ByteArray) (h:s.size≤268435456):lzJ (s,())=some ((padV s,()),()):=by
 have hm:=Nat.mod_lt s.size (show 136>0 by omega)
 rw[Jzz,azv (by decide) (by simp [hzf];omega),aza]
 show cz7 (bzn s++[1],())=_
 have hl:(bzn s++[(1:Int)]).length=s.size+1:=by simp [hzf]
 rw[Jz2 (135-s.size % 136) (bzn s++[1]) (by rw[hl];omega) (by omega) (by rw[hl];omega),List.append_assoc,vzt,show nz 136=true from rfl,aza]
 have hl2:(bzn s++([1]++List.replicate (135-s.size % 136) (0:Int))).length=s.size+(136-s.size % 136):=by simp [hzf];omega
 have e0:ine (irem (len (bzn s++([1]++List.replicate (135-s.size % 136) (0:Int)))) 136) 0=false:=by
  rw[azz,hl2,izS (by omega),dzb,decide_eq_true (by omega)];rfl
 rw[e0,azc]
 have es:isub .i64 (len (bzn s++([1]++List.replicate (135-s.size % 136) (0:Int)))) 1=((s.size+(135-s.size % 136):Nat):Int):=by
  rw[azz,hl2,az4 (by omega) (by omega)];omega
 have ei:inb (isub .i64 (len (bzn s++([1]++List.replicate (135-s.size % 136) (0:Int)))) 1) (len (bzn s++([1]++List.replicate (135-s.size % 136) (0:Int))))=true:=by
  rw[es,azz,hl2];exact bz0 (by omega) (by omega)
 rw[ei,aza,aza]
 rfl
def Azc (p:ByteArray) (at':Int) (i:Nat) (a:List Int):List Int:=upd a (i:Int) (ixor .u64 (rd 0 a (i:Int)) (Wze p (at'+8*(i:Int))))
def Bzl (p:ByteArray) (at':Int) (a:List Int):List Int:=Izm (iter (Azc p at') 17 0 a)
def Mz7 (p:ByteArray):ByteArray:=ssub (qzD (iter (fun j a=>Bzl p ((136*j:Nat):Int) a) (p.size/136) 0 yzb)) 0 32
def azm (s:ByteArray):ByteArray:=Mz7 (padV s)
theorem azE (s:ByteArray):(azm s).size=32:=by
 unfold azm Mz7 ssub
 rw[ByteArray.size_extract,mzk];rfl
theorem RzS (p:ByteArray) (j:Nat) (a:List Int) (h:136*j+136≤p.size) (hp:p.size≤549755813888):mz7 (p,(((136*j:Nat):Int),(0,(a,()))))=nzu (p,(((136*(j+1):Nat):Int),(Bzl p ((136*j:Nat):Int) a,()))):=by
 refine (bz4 (D:=mz7) (st:=fun i a=>(p,(((136*j:Nat):Int),((i:Int),(a,()))))) (n:=17) (P:=fun _=>True) (step:=Azc p ((136*j:Nat):Int)) (fun i a hi _=>by
  refine ⟨?_,trivial⟩
  rw[EzR,bzT (by omega),aza,jzd (by omega),aza,fzq (by omega) (by omega),azA (by omega) (by omega),WzX _ _ (by omega) (by omega) (by omega),azb,aza,nx (by omega)]
  rfl) 17 0 a rfl trivial).1.trans ?_
 rw[EzR,az0 (by omega),azc,Tzl,azb,azA (by omega) (by omega)]
 rw[show ((136*j:Nat):Int)+136=((136*(j+1):Nat):Int) by omega,Bzl]
theorem czR (s:ByteArray) (h:s.size≤268435456):czi (s,())=some ((azm s,()),()):=by
 have hs:=Hzt s
 have hm:=Nat.mod_lt s.size (show 136>0 by omega)
 rw[SzS,iPad_l s h,azb]
 generalize hp:padV s=p at hs
 refine (bz4 (D:=nzu) (st:=fun j a=>(p,(((136*j:Nat):Int),(a,())))) (n:=p.size/136) (P:=fun _=>True) (step:=fun j a=>Bzl p ((136*j:Nat):Int) a) (fun j a hj _=>by
  refine ⟨?_,trivial⟩
  rw[Ezn,bzT (by rw[azL];omega),aza,RzS p j a (by omega) (by omega)]) (p.size/136) 0 yzb (by omega) trivial).1.trans ?_
 rw[Ezn,az0 (by rw[azL];omega),azc,Wzy,azb,bzt (by omega) (by omega) (by rw[azL,mzk];omega),aza,azm,hp]
 rfl
theorem Qzj (p:ByteArray) (j:Nat) (a:List Int) (h:136*j+136≤p.size) (hp:p.size≤549755813888):mzY (p,(((136*j:Nat):Int),(0,(a,()))))=mzD (p,(((136*(j+1):Nat):Int),(Bzl p ((136*j:Nat):Int) a,()))):=by
 refine (bz4 (D:=mzY) (st:=fun i a=>(p,(((136*j:Nat):Int),((i:Int),(a,()))))) (n:=17) (P:=fun _=>True) (step:=Azc p ((136*j:Nat):Int)) (fun i a hi _=>by
  refine ⟨?_,trivial⟩
  rw[DzX,bzT (by omega),aza,jzd (by omega),aza,fzq (by omega) (by omega),azA (by omega) (by omega),WzC _ _ (by omega) (by omega) (by omega),azb,aza,nx (by omega)]
  rfl) 17 0 a rfl trivial).1.trans ?_
 rw[DzX,az0 (by omega),azc,sAll_l,azb,azA (by omega) (by omega)]
 rw[show ((136*j:Nat):Int)+136=((136*(j+1):Nat):Int) by omega,Bzl]
theorem bzO (s:ByteArray) (h:s.size≤268435456):czA (s,())=some ((azm s,()),()):=by
 have hs:=Hzt s
 have hm:=Nat.mod_lt s.size (show 136>0 by omega)
 rw[Szl,sPad_l s h,azb]
 generalize hp:padV s=p at hs
 refine (bz4 (D:=mzD) (st:=fun j a=>(p,(((136*j:Nat):Int),(a,())))) (n:=p.size/136) (P:=fun _=>True) (step:=fun j a=>Bzl p ((136*j:Nat):Int) a) (fun j a hj _=>by
  refine ⟨?_,trivial⟩
  rw[DzL,bzT (by rw[azL];omega),aza,Qzj p j a (by omega) (by omega)]) (p.size/136) 0 yzb (by omega) trivial).1.trans ?_
 rw[DzL,az0 (by rw[azL];omega),azc,Xzc,azb,bzt (by omega) (by omega) (by rw[azL,mzk];omega),aza,azm,hp]
 rfl
end Go.Proofs.YthldgfkkgmpmlaaGreatDoor
