/- Of a drawn proof with one byte turned. Of no condition. -/
import Derived.Test.YtoeiajpklkijgaaGreatDoorDC
set_option linter.unusedVariables false
set_option linter.unusedSimpArgs false
set_option maxRecDepth 100000
namespace Go.Proofs.YtoeiajpklkijgaaGreatDoor
open Go.TV
theorem ssub_le (s:ByteArray) (i j:Int):(ssub s i j).size≤s.size:=by
 unfold ssub
 rw[ByteArray.size_extract]
 omega
theorem spoilt_l {c:tL01Cur} (s:ByteArray) (hs:s.size≤1000000) (h:CurOk c): ∃ (t:ByteArray) (c':tL01Cur),sL02Spoilt_d (c,(s,()))=some ((t,()),(c',()))∧CurOk c':=by
 obtain ⟨v,c1,e1,v0,v1,h1⟩:=below_l 12 h
 have cut: ∃ (t:ByteArray) (c':tL01Cur),(Go.TV.cnd (igt (ssz s) 0) (Go.TV.bnd (sL01Below_d (c1,(ssz s,()))) (fun r3=>Go.TV.bnd (sL01Text_d (r3.2.1,(1,()))) (fun r4=>some ((scat (scat (ssub s 0 r3.1.1) r4.1.1) (ssub s (iadd .i64 r3.1.1 1) (ssz s)),()),(r4.2.1,()))))) (some ((s,()),(c1,()))):Option ((ByteArray×Unit)× (tL01Cur×Unit)))=some ((t,()),(c',()))∧CurOk c':=by
  by_cases h0:(0:Int)<ssz s
  ·obtain ⟨i,c2,e2,i0,i1,h2⟩:=below_l (ssz s) h1
   obtain ⟨t,c3,e3,ht,h3⟩:=text_l 1 (by omega) h2
   rw[igt_t h0,cnd_t,e2,bnd_s]
   simp only[]
   rw[e3,bnd_s]
   exact ⟨_,_,rfl,h3⟩
  ·rw[igt_f (by omega),cnd_f]
   exact ⟨_,_,rfl,h1⟩
 have same: ∀X:tL01Cur× (Int×Unit)→Option ((ByteArray×Unit)× (tL01Cur×Unit)),True:=fun _=>trivial
 rw[sL02Spoilt_b,e1,bnd_s]
 simp only[]
 cases ieq v 0 with
 |true=>
  obtain ⟨t,c3,e3,ht,h3⟩:=text_l 1 (by omega) h1
  rw[cnd_t,e3,bnd_s]
  simp only[]
  rw[cat_fits (by omega),cnd_t]
  exact ⟨_,_,rfl,h3⟩
 |false=>
 rw[cnd_f]
 cases ieq v 1 with
 |true=>
  obtain ⟨i,c2,e2,i0,i1,h2⟩:=below_l (iadd .i64 (ssz s) 1) h1
  have i2:=i1 (by rw[ssz_d,iadd_64 (by omega) (by omega)];omega)
  rw[ssz_d,iadd_64 (by omega) (by omega)] at i2
  rw[cnd_t,e2,bnd_s]
  simp only[]
  rw[inb2_t (Int.le_refl _) i0 (by rw[ssz_d];omega),cnd_t]
  exact ⟨_,_,rfl,h2⟩
 |false=>
 rw[cnd_f]
 by_cases h0:(0:Int)<ssz s
 ·obtain ⟨i,c2,e2,i0,i1,h2⟩:=below_l (ssz s) h1
  obtain ⟨t,c3,e3,ht,h3⟩:=text_l 1 (by omega) h2
  have i2:=i1 h0
  have hz:ssz s=(s.size:Int):=ssz_d
  have hI:iadd .i64 i 1=i+1:=iadd_64 (by omega) (by omega)
  have b1:inb2 0 i (ssz s)=true:=inb2_t (Int.le_refl _) i0 (by omega)
  have b2:inb2 (i+1) (ssz s) (ssz s)=true:=inb2_t (by omega) (by omega) (Int.le_refl _)
  have l1:=ssub_le s 0 i
  have l2:=ssub_le s (i+1) (ssz s)
  have f1:fits (ssz (ssub s 0 i)+ssz t) 1=true:=cat_fits (by omega)
  have f2:fits (ssz (scat (ssub s 0 i) t)+ssz (ssub s (i+1) (ssz s))) 1=true:=cat_fits (by rw[size_scat];omega)
  rw[igt_t h0]
  simp only[cnd_t,e2,e3,bnd_s,hI,b1,b2,f1,f2,agree_self]
  cases ieq v 2 with
  |true=>exact ⟨_,_,rfl,h3⟩
  |false=>
   cases ieq v 3 with
   |true=>exact ⟨_,_,rfl,h3⟩
   |false=>exact ⟨_,_,rfl,h1⟩
 ·rw[igt_f (by omega)]
  simp only[cnd_f]
  cases ieq v 2 with
  |true=>exact ⟨_,_,rfl,h1⟩
  |false=>
   cases ieq v 3 with
   |true=>exact ⟨_,_,rfl,h1⟩
   |false=>exact ⟨_,_,rfl,h1⟩
theorem turned_l (s:ByteArray) (hs:s.size≤268435455) (q:List Int) (hq:q.length=12) (hq2: ∀x∈q,0≤x∧x<10000): ∃t:ByteArray,wTurned_d (s,(q,()))=some ((t,()),())∧t.size≤268435456:=by
 have hl:len (sbytes s)=(s.size:Int):=by
  rw[len_d];unfold sbytes
  rw[List.length_map]
  show ((s.data.toList.length:Nat):Int)=(s.data.size:Int)
  rw[Array.length_toList]
 have q0:0<q.length:=by omega
 obtain ⟨b0,b1⟩:=hq2 q[0] (List.getElem_mem q0)
 have e0:rd 0 q 0=q[0]:=rd_at (i:=0) q0
 rw[wTurned_b,hl,ieq_d]
 by_cases h0:(s.size:Int)=0
 ·rw[decide_eq_true h0,cnd_t]
  exact ⟨_,rfl,by rw[size_bs];decide⟩
 ·have hm:inb (irem q[0] (s.size:Int)) (s.size:Int)=true:=by
   rw[irem_0 b0]
   exact inb_t (Int.emod_nonneg _ (by omega)) (Int.emod_lt_of_pos _ (by omega))
  rw[decide_eq_false h0,cnd_f,show inb 0 (len q)=true from inb_at (i:=0) q0,cnd_t,show nz (s.size:Int)=true by rw[nz_d,decide_eq_false h0];rfl,cnd_t,e0,hm,cnd_t,show inb 1 (len q)=true from inb_at (i:=1) (by omega),cnd_t,show nz 255=true from rfl,cnd_t,cnd_t]
  refine ⟨_,rfl,?_⟩
  rw[size_sof]
  unfold upd
  rw[List.length_set]
  have:(sbytes s).length=s.size:=by rw[len_d] at hl;omega
  omega
theorem drawVer_l (code:List Int) (hl:code.length≤1048576): ∃ (a b:ByteArray) (p:List ByteArray),sDrawVerifyTrie_d (code,())=some ((a,(b,(p,()))),()):=by
 obtain ⟨c,e,h⟩:=new_l code hl
 obtain ⟨v,c1,e1,_,_,h1⟩:=below_l 10 h
 obtain ⟨k,c2,e2,hk,h2⟩:=key_l h1
 obtain ⟨l,c3,e3,a1,a2,a3,h3⟩:=pairs_l h2
 have hp:=pok_of (by omega) a2 a3
 have hpr:provedV l k=proveV l k:=by unfold provedV;rw[if_pos ⟨hk,hp⟩]
 have hlen:=provedV_len l k
 obtain ⟨t0,r0,hc⟩: ∃t0 r0,provedV l k=t0::r0:=⟨_,_,hpr⟩
 have hin:inb 0 (len (provedV l k))=true:=by rw[hc];exact inb_at (i:=0) (Nat.succ_pos _)
 rw[sDrawVerifyTrie_b,e,bnd_s]
 simp only[]
 rw[e1,bnd_s]
 simp only[]
 rw[e2,bnd_s]
 simp only[]
 rw[e3,bnd_s]
 simp only[]
 rw[sProveT_l l k (by omega),bnd_s,sRoot_l l (by omega),bnd_s]
 simp only[]
 cases ieq v 0 with
 |true=>
  have ht0:t0.size≤900:=provedV_sizes l k t0 (by rw[hc];simp)
  obtain ⟨t,c4,e4,h4⟩:=spoilt_l t0 (by omega) h3
  rw[cnd_t,hin,cnd_t,show rd (bs []) (provedV l k) 0=t0 by rw[hc];rfl,e4,bnd_s,cnd_t,sDrawVerifyTrie_q21]
  exact ⟨_,_,_,rfl⟩
 |false=>
 rw[cnd_f]
 cases ieq v 1 with
 |true=>
  rw[cnd_t,app_fits (by decide) (by simp only[List.length_cons,List.length_nil];omega),cnd_t,sDrawVerifyTrie_q21]
  exact ⟨_,_,_,rfl⟩
 |false=>
 rw[cnd_f]
 cases ieq v 2 with
 |true=>
  rw[cnd_t,inb2_t (i:=1) (by omega) (by rw[hc,len_d];simp only[List.length_cons];omega) (Int.le_refl _),cnd_t,sDrawVerifyTrie_q21]
  exact ⟨_,_,_,rfl⟩
 |false=>
 rw[cnd_f]
 cases ieq v 3 with
 |true=>
  rw[cnd_t,sDigest_l _ (by rw[size_bs];decide),bnd_s,sDrawVerifyTrie_q21]
  exact ⟨_,_,_,rfl⟩
 |false=>
 rw[cnd_f]
 cases ieq v 4 with
 |true=>
  obtain ⟨k',c4,e4,_,_⟩:=key_l h3
  rw[cnd_t,e4,bnd_s,sDrawVerifyTrie_q21]
  exact ⟨_,_,_,rfl⟩
 |false=>
 rw[cnd_f]
 cases ieq v 5 with
 |true=>
  obtain ⟨x,c4,e4,_,_⟩:=any_l h3
  have:=itemR_size x
  rw[cnd_t,e4,bnd_s]
  simp only[]
  rw[sItemText_l,bnd_s]
  simp only[]
  rw[sDigest_l _ (by omega),bnd_s]
  exact ⟨_,_,_,rfl⟩
 |false=>
  rw[cnd_f,sDrawVerifyTrie_q21]
  exact ⟨_,_,_,rfl⟩
theorem turned_loop (code:List Int) (l:List tPair) (k:ByteArray) (q:List Int) (hp:pokV l=true) (hk:k.size=4) (hq:q.length=12) (hq2: ∀x∈q,0≤x∧x<10000): ∀ (m i:Nat),i+m=(proveV l k).length→
 wFnTriesTurned_D9 (code,(k,(trootV l,(proveV l k,(q,((gotV l k).1,((gotV l k).2,((i:Int),()))))))))=wFnTriesTurned_D9 (code,(k,(trootV l,(proveV l k,(q,((gotV l k).1,((gotV l k).2,(((proveV l k).length:Int),())))))))):=by
 intro m
 induction m with
 |zero=>intro i hi;rw[show (i:Int)=((proveV l k).length:Int) by omega]
 |succ m ih=>
  intro i hi
  have h1:i<(proveV l k).length:=by omega
  have hlen:=proveV_len l k
  have hsz:=proveV_size l k
  have h900:(proveV l k)[i].size≤900:=provedV_sizes l k _ (by unfold provedV;rw[if_pos ⟨hk,hp⟩];exact List.getElem_mem h1)
  obtain ⟨t,et,ht⟩:=turned_l (proveV l k)[i] (by omega) q hq hq2
  have hv:=ver_ok hp hk
  have ihn:=ih (i+1) (by omega)
  rw[wFnTriesTurned_q9,ilt_at h1,cnd_t,app_fits (by decide) (by simp only[List.length_nil];omega),cnd_t,inb_at h1,cnd_t,rd_at h1,et,bnd_s]
  simp only[]
  rw[show app ([]:List ByteArray) (proveV l k)=proveV l k from rfl,inb_at h1,cnd_t,iVer_l,bnd_s,next_at (by omega),ihn]
  simp only[]
  have hb: ∀x∈upd (proveV l k) (i:Int) t,x.size≤268435456:=fun x hx=>by
   rw[upd_at] at hx
   rcases List.mem_or_eq_of_mem_set hx with hx|rfl
   ·exact hsz x hx
   ·exact ht
  have hbl:(upd (proveV l k) (i:Int) t).length≤1000:=by rw[upd_at,List.length_set];omega
  rw[clash_l _ _ hsz hb (by omega) hbl,bnd_s]
  simp only[]
  cases h0:ieq (verV (trootV l) k (upd (proveV l k) (i:Int) t)).2.2.1 0 with
  |false=>rw[cnd_f]
  |true=>
   have h0':(verV (trootV l) k (upd (proveV l k) (i:Int) t)).2.2.1=0:=by
    rw[ieq_d] at h0;exact of_decide_eq_true h0
   rw[cnd_t]
   rcases ver_two (a:=proveV l k) (by rw[hv]) h0' with ⟨e1,e2⟩|hc
   ·rw[hv] at e1 e2
    simp only[] at e1 e2
    rw[←e1,←e2,sne_self,cnd_f,bneB_self,cnd_f]
   ·rw[clash_iff hc,show bnot true=false from rfl,cnd_f]
    cases sne (verV (trootV l) k (upd (proveV l k) (i:Int) t)).1 (gotV l k).1 with
    |true=>rfl
    |false=>
     rw[cnd_f]
     cases bneB (verV (trootV l) k (upd (proveV l k) (i:Int) t)).2.1 (gotV l k).2<;>rfl
theorem wFnTriesTurned_l (code:List Int):wFnTriesTurned_d (code,())=some ((true,()),()):=by
 rw[wFnTriesTurned_b,big_l,bnd_s]
 simp only[]
 by_cases hb:1048576<code.length
 ·rw[decide_eq_true hb,cnd_t]
 ·obtain ⟨l,k,e,d1,d2,d3,hk⟩:=drawPairs_l code (by omega)
  obtain ⟨q,eq,hq,hq2⟩:=places_l code (by omega)
  obtain ⟨a,b,p,ev⟩:=drawVer_l code (by omega)
  have hp:=pok_draw d1 d2 d3
  rw[decide_eq_false hb,cnd_f,e,bnd_s]
  simp only[]
  rw[iRoot_l,bnd_s]
  simp only[]
  rw[iProveT_l,bnd_s,proved_ok hp hk]
  simp only[]
  rw[eq,bnd_s,got_l l (by omega),bnd_s]
  have h:=turned_loop code l k q hp hk hq hq2 (proveV l k).length 0 (by omega)
  rw[show ((0:Nat):Int)=0 from rfl] at h
  simp only[]
  rw[h,wFnTriesTurned_q9,ilt_end,cnd_f,ev,bnd_s]
  simp only[]
  rw[iVer_l,bnd_s,sVer_l,bnd_s]
  simp only[]
  rw[seq_d,decide_eq_true rfl,cnd_t,beqB_d,BEq.rfl,cnd_t,ieq_d,decide_eq_true rfl,cnd_t,igt_t (by rw[len_d];simp only[proveV,List.length_cons];omega)]
end Go.Proofs.YtoeiajpklkijgaaGreatDoor
