/- Copies; accounts of a chain; Save, Tick, Deliver. Of no condition. -/
import Derived.Test.YtonggnnjobapcaaGreatDoorWB
set_option linter.unusedVariables false
set_option linter.unusedSimpArgs false
set_option maxRecDepth 100000
namespace Go.Proofs.YtonggnnjobapcaaGreatDoor
open Go.TV
theorem good_int {k:Int} (h:GoodV (.int .i64) k): -9223372036854775808≤k∧k≤9223372036854775807:=by
 simp only[GoodV,Lit.wf] at h
 simp at h
 exact h
noncomputable instance decMem (t:ByteArray) (xs:List ByteArray):Decidable (t∈xs):=Classical.propDecidable _
theorem app_nil {α:Type} {xs:List α}:app [] xs=xs:=rfl
theorem app_one {α:Type} {xs:List α} {y:α}:app xs (y::[])=xs++[y]:=rfl
theorem agree_self {α:Type} {x:Option α}:agree x x=x:=by unfold agree;rw[if_pos rfl]
theorem clone_law {α:Type} {xs:List α} {z:Nat} (hz:z<128) (hl:xs.length≤16777216):
 (cnd (ieq (len xs) 0) (agree (some ((([]:List α),()),())) (cnd (fits (len ([]:List α)+len xs) z) (some ((app [] xs,()),())) none)) (cnd (fits (len ([]:List α)+len xs) z) (some ((app [] xs,()),())) none))=some ((xs,()),()):=by
 rw[app_fits (xs:=([]:List α)) hz (by simp;omega),cnd_t,app_nil]
 cases xs with
 |nil=>rw[agree_self];rfl
 |cons x xs=>
  have:ieq (len (x::xs)) 0=false:=by rw[ieq_d];exact decide_eq_false (by simp only[len_d,List.length_cons];omega)
  rw[this,cnd_f]
theorem clonePoint (xs:List tPoint) (hl:xs.length≤16777216):g_slices_Clone_impl_Point_impl_Point_d (xs,())=some ((xs,()),()):=(g_slices_Clone_impl_Point_impl_Point_b xs).trans (clone_law (by decide) hl)
theorem cloneString (xs:List ByteArray) (hl:xs.length≤16777216):g_slices_Clone_string_string_d (xs,())=some ((xs,()),()):=(g_slices_Clone_string_string_b xs).trans (clone_law (by decide) hl)
theorem iCopyCommittee_l (x:tCommittee) (h:Fine TCommittee x):iCopyCommittee_d (x,())=some ((x,()),()):=by
 rw[iCopyCommittee_b,clonePoint _ h.1.1,bnd_s]
theorem iCopyKeys_l (x:tKeys) (h:Fine TKeys x):iCopyKeys_d (x,())=some ((x,()),()):=by
 rw[iCopyKeys_b,clonePoint _ h.2.2.2.2.1.1,bnd_s]
theorem iCopyClient_l (x:tClient) (h:Fine TClient x):iCopyClient_d (x,())=some ((x,()),()):=by
 rw[iCopyClient_b,iCopyCommittee_l _ h.2.1,bnd_s,iCopyCommittee_l _ h.2.2.1,bnd_s,iCopyKeys_l _ h.2.2.2.2.1,bnd_s]
theorem iCopyBridge_l (x:tBridge) (h:Fine TBridge x):iCopyBridge_d (x,())=some ((x,()),()):=by
 rw[iCopyBridge_b,iCopyClient_l _ h.1,bnd_s,iCopyClient_l _ h.2.1,bnd_s,cloneString _ h.2.2.2.2.1.1,bnd_s]
theorem sCommittee_l (x:tCommittee) (h:Fine TCommittee x):sL22Committee_d (x,())=some ((x,()),()):=by
 rw[sL22Committee_b,app_fits (by decide) (by have:=h.1.1;simp;omega),cnd_t,app_nil]
theorem sCopy_l (x:tClient) (h:Fine TClient x):sL22Copy_d (x,())=some ((x,()),()):=by
 rw[sL22Copy_b,sCommittee_l _ h.2.1,bnd_s,sCommittee_l _ h.2.2.1,bnd_s,app_fits (by decide) (by have:=h.2.2.2.2.1.2.2.2.2.1.1;simp;omega),cnd_t,app_nil]
theorem sCopyBridge_l (x:tBridge) (h:Fine TBridge x):sL24Copy_d (x,())=some ((x,()),()):=by
 rw[sL24Copy_b,sCopy_l _ h.1,bnd_s,sCopy_l _ h.2.1,bnd_s,app_fits (by decide) (by have:=h.2.2.2.2.1.1;simp;omega),cnd_t,app_nil]
theorem iIsSlot_l (n:Int):iIsSlot_d (n,())=some ((decide (0≤n∧n≤10000),()),()):=by
 rw[iIsSlot_b,ige_d,cnd_d,ile_d]
 by_cases h:0≤n<;>simp [h]
theorem index_loop (xs:List ByteArray) (t:ByteArray) (hl:xs.length≤16777216): ∀ (k i:Nat),i+k=xs.length→ ∃r:Int,g_slices_Index_string_string_D2 (xs,(t,(len xs,((i:Int),()))))=some ((r,()),())∧(0≤r↔ ∃j:Nat,i≤j∧xs[j]?=some t):=by
 intro k
 induction k with
 |zero=>
  intro i hi
  rw[g_slices_Index_string_string_q2,show (i:Int)=(xs.length:Int) by omega,ilt_end,cnd_f]
  refine ⟨_,rfl,by omega,fun ⟨j,h1,h2⟩=>?_⟩
  have:=(List.getElem?_eq_some_iff.1 h2).1
  omega
 |succ k ih=>
  intro i hi
  have h:i<xs.length:=by omega
  rw[g_slices_Index_string_string_q2,ilt_at h,cnd_t,inb_at h,cnd_t,rd_at h,seq_d,cnd_d,next_at (by omega)]
  by_cases he:t=xs[i]
  ·rw[if_pos he]
   exact ⟨_,rfl,fun _=>⟨i,Nat.le_refl i,by rw[he];exact List.getElem?_eq_getElem h⟩,fun _=>by omega⟩
  ·rw[if_neg he]
   obtain ⟨r,h1,h2⟩:=ih (i+1) (by omega)
   refine ⟨r,h1,h2.trans ⟨fun ⟨j,q1,q2⟩=>⟨j,by omega,q2⟩,fun ⟨j,q1,q2⟩=>⟨j,?_,q2⟩⟩⟩
   rcases Nat.lt_or_ge i j with hij|hij
   ·exact hij
   ·have:j=i:=by omega
    subst this
    rw[List.getElem?_eq_getElem h] at q2
    exact absurd (Option.some.inj q2).symm he
theorem contains_l (xs:List ByteArray) (t:ByteArray) (hl:xs.length≤16777216):g_slices_Contains_string_string_d (xs,(t,()))=some ((decide (t∈xs),()),()):=by
 rw[g_slices_Contains_string_string_b,g_slices_Index_string_string_b]
 obtain ⟨r,h1,h2⟩:=index_loop xs t hl xs.length 0 (by omega)
 have h1':g_slices_Index_string_string_D2 (xs,(t,(len xs,(0,()))))=some ((r,()),()):=h1
 rw[h1',bnd_s]
 have:(0≤r)↔t∈xs:=by
  rw[h2,List.mem_iff_getElem?]
  exact ⟨fun ⟨j,_,h⟩=>⟨j,h⟩,fun ⟨j,h⟩=>⟨j,Nat.zero_le _,h⟩⟩
 rw[ige_d]
 simp only[this]
end Go.Proofs.YtonggnnjobapcaaGreatDoor
