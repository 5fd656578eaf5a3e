/- Copies; accounts of a chain; Save, Tick, Deliver. Of no condition. -/
import Derived.Test.YtegdhiadikjdbaaWB
set_option linter.unusedVariables false
set_option linter.unusedSimpArgs false
set_option maxRecDepth 100000
namespace Go.Proofs.Ytegdhiadikjdbaa
open Go.TV

theorem good_int {k : Int} (h : GoodV (.int .i64) k) : -9223372036854775808 ≤ k ∧ k ≤ 9223372036854775807 := by
  simp only [GoodV, Lit.wf] at h
  simp at h
  exact h
noncomputable instance decMem (t : ByteArray) (xs : List ByteArray) : Decidable (t ∈ xs) := Classical.propDecidable _

/-! copies -/
theorem app_nil {α : Type} {xs : List α} : app [] xs = xs := rfl
theorem app_one {α : Type} {xs : List α} {y : α} : app xs (y :: []) = xs ++ [y] := rfl
theorem agree_self {α : Type} {x : Option α} : agree x x = x := by unfold agree; rw [if_pos rfl]
theorem clone_law {α : Type} {xs : List α} {z : Nat} (hz : z < 128) (hl : xs.length ≤ 16777216) :
    (cnd (ieq (len xs) 0) (agree (some ((([] : List α), ()), ())) (cnd (fits (len ([] : List α) + len xs) z) (some ((app [] xs, ()), ())) none)) (cnd (fits (len ([] : List α) + len xs) z) (some ((app [] xs, ()), ())) none)) = some ((xs, ()), ()) := by
  rw [app_fits (xs := ([] : List α)) hz (by simp; omega), cnd_t, app_nil]
  cases xs with
  | nil => rw [agree_self]; rfl
  | cons x xs =>
    have : ieq (len (x :: xs)) 0 = false := by rw [ieq_d]; exact decide_eq_false (by simp only [len_d, List.length_cons]; omega)
    rw [this, cnd_f]
theorem clonePoint (xs : List tPoint) (hl : xs.length ≤ 16777216) : g_slices_Clone_impl_Point_impl_Point_d (xs, ()) = some ((xs, ()), ()) := (g_slices_Clone_impl_Point_impl_Point_b xs).trans (clone_law (by decide) hl)
theorem clonePair (xs : List tPair) (hl : xs.length ≤ 16777216) : g_slices_Clone_impl_Pair_impl_Pair_d (xs, ()) = some ((xs, ()), ()) := (g_slices_Clone_impl_Pair_impl_Pair_b xs).trans (clone_law (by decide) hl)
theorem cloneString (xs : List ByteArray) (hl : xs.length ≤ 16777216) : g_slices_Clone_string_string_d (xs, ()) = some ((xs, ()), ()) := (g_slices_Clone_string_string_b xs).trans (clone_law (by decide) hl)

theorem iCopyCommittee_l (x : tCommittee) (h : Fine TCommittee x) : iCopyCommittee_d (x, ()) = some ((x, ()), ()) := by
  rw [iCopyCommittee_b, clonePoint _ h.1.1, bnd_s]
theorem iCopyKeys_l (x : tKeys) (h : Fine TKeys x) : iCopyKeys_d (x, ()) = some ((x, ()), ()) := by
  rw [iCopyKeys_b, clonePoint _ h.2.2.2.2.1.1, bnd_s]
theorem iCopyClient_l (x : tClient) (h : Fine TClient x) : iCopyClient_d (x, ()) = some ((x, ()), ()) := by
  rw [iCopyClient_b, iCopyCommittee_l _ h.2.1, bnd_s, iCopyCommittee_l _ h.2.2.1, bnd_s, iCopyKeys_l _ h.2.2.2.2.1, bnd_s]
theorem iCopyBridge_l (x : tBridge) (h : Fine TBridge x) : iCopyBridge_d (x, ()) = some ((x, ()), ()) := by
  rw [iCopyBridge_b, iCopyClient_l _ h.1, bnd_s, iCopyClient_l _ h.2.1, bnd_s, cloneString _ h.2.2.2.2.1.1, bnd_s]
theorem sCommittee_l (x : tCommittee) (h : Fine TCommittee x) : sL22Committee_d (x, ()) = some ((x, ()), ()) := by
  rw [sL22Committee_b, app_fits (by decide) (by have := h.1.1; simp; omega), cnd_t, app_nil]
theorem sCopy_l (x : tClient) (h : Fine TClient x) : sL22Copy_d (x, ()) = some ((x, ()), ()) := by
  rw [sL22Copy_b, sCommittee_l _ h.2.1, bnd_s, sCommittee_l _ h.2.2.1, bnd_s, app_fits (by decide) (by have := h.2.2.2.2.1.2.2.2.2.1.1; simp; omega), cnd_t, app_nil]
theorem sCopyBridge_l (x : tBridge) (h : Fine TBridge x) : sL24Copy_d (x, ()) = some ((x, ()), ()) := by
  rw [sL24Copy_b, sCopy_l _ h.1, bnd_s, sCopy_l _ h.2.1, bnd_s, app_fits (by decide) (by have := h.2.2.2.2.1.1; simp; omega), cnd_t, app_nil]

/-! Save, Tick, Deliver -/
theorem save_same (x : tBridge) (h : Small TBridge x) : ∃ r, sSave_d (x, ()) = some ((r, ()), ()) ∧ iSave_d (x, ()) = some ((r, ()), ()) ∧ Fine TBridge r := by
  have hf : Fine TBridge x := Bnd.le (by decide) h
  rw [sSave_b, sCopyBridge_l x hf, bnd_s, iSave_b, iCopyBridge_l x hf, bnd_s]
  exact ⟨_, rfl, rfl, hf.1, hf.2.1, hf.2.2.1, trivial, hf.2.2.2.2.1, trivial, trivial⟩
theorem iIsSlot_l (n : Int) : iIsSlot_d (n, ()) = some ((decide (0 ≤ n ∧ n ≤ 10000), ()), ()) := by
  rw [iIsSlot_b, ige_d, cnd_d, ile_d]
  by_cases h : 0 ≤ n <;> simp [h]
theorem tick_same (x : tBridge) (n : Int) (h : Small TBridge x) (hv : GoodV (.int .i64) x.2.2.2.2.2.1) : ∃ r b, sTick_d (x, (n, ())) = some ((r, (b, ())), ()) ∧ iTick_d (x, (n, ())) = some ((r, (b, ())), ()) ∧ Fine TBridge r := by
  have hf : Fine TBridge x := Bnd.le (by decide) h
  rw [sTick_b, sCopyBridge_l x hf, bnd_s, iTick_b, iCopyBridge_l x hf, bnd_s, iIsSlot_l, bnd_s]
  simp only [ilt_d, igt_d, bnot_d, cnd_not, cnd_d]
  by_cases h0 : n < 0
  · have : ¬ (0 ≤ n ∧ n ≤ 10000) := by omega
    simp only [h0, this, if_true, if_false]
    exact ⟨_, _, rfl, rfl, hf⟩
  · by_cases h1 : 10000 < n
    · have : ¬ (0 ≤ n ∧ n ≤ 10000) := by omega
      simp only [h0, h1, this, if_true, if_false]
      exact ⟨_, _, rfl, rfl, hf⟩
    · have : 0 ≤ n ∧ n ≤ 10000 := by omega
      simp only [h0, h1, this, and_self, if_true, if_false]
      split
      · exact ⟨_, _, rfl, rfl, hf⟩
      · exact ⟨_, _, rfl, rfl, hf.1, hf.2.1, hf.2.2.1, trivial, hf.2.2.2.2.1, trivial, trivial⟩

theorem index_loop (xs : List ByteArray) (t : ByteArray) (hl : xs.length ≤ 16777216) : ∀ (k i : Nat), i + k = xs.length → ∃ r : Int, g_slices_Index_string_string_D2 (xs, (t, (len xs, ((i : Int), ())))) = some ((r, ()), ()) ∧ (0 ≤ r ↔ ∃ j : Nat, i ≤ j ∧ xs[j]? = some t) := by
  intro k
  induction k with
  | zero =>
    intro i hi
    rw [g_slices_Index_string_string_q2, show (i : Int) = (xs.length : Int) by omega, ilt_end, cnd_f]
    refine ⟨_, rfl, by omega, fun ⟨j, h1, h2⟩ => ?_⟩
    have := (List.getElem?_eq_some_iff.1 h2).1
    omega
  | succ k ih =>
    intro i hi
    have h : i < xs.length := by omega
    rw [g_slices_Index_string_string_q2, ilt_at h, cnd_t, inb_at h, cnd_t, rd_at h, seq_d, cnd_d, next_at (by omega)]
    by_cases he : t = xs[i]
    · rw [if_pos he]
      exact ⟨_, rfl, fun _ => ⟨i, Nat.le_refl i, by rw [he]; exact List.getElem?_eq_getElem h⟩, fun _ => by omega⟩
    · rw [if_neg he]
      obtain ⟨r, h1, h2⟩ := ih (i + 1) (by omega)
      refine ⟨r, h1, h2.trans ⟨fun ⟨j, q1, q2⟩ => ⟨j, by omega, q2⟩, fun ⟨j, q1, q2⟩ => ⟨j, ?_, q2⟩⟩⟩
      rcases Nat.lt_or_ge i j with hij | hij
      · exact hij
      · have : j = i := by omega
        subst this
        rw [List.getElem?_eq_getElem h] at q2
        exact absurd (Option.some.inj q2).symm he
theorem contains_l (xs : List ByteArray) (t : ByteArray) (hl : xs.length ≤ 16777216) : g_slices_Contains_string_string_d (xs, (t, ())) = some ((decide (t ∈ xs), ()), ()) := by
  rw [g_slices_Contains_string_string_b, g_slices_Index_string_string_b]
  obtain ⟨r, h1, h2⟩ := index_loop xs t hl xs.length 0 (by omega)
  have h1' : g_slices_Index_string_string_D2 (xs, (t, (len xs, (0, ())))) = some ((r, ()), ()) := h1
  rw [h1', bnd_s]
  have : (0 ≤ r) ↔ t ∈ xs := by
    rw [h2, List.mem_iff_getElem?]
    exact ⟨fun ⟨j, _, h⟩ => ⟨j, h⟩, fun ⟨j, h⟩ => ⟨j, Nat.zero_le _, h⟩⟩
  rw [ige_d]
  simp only [this]

theorem sDeliver_loop (x : tBridge) (t : ByteArray) (hf : Fine TBridge x) : ∀ (k i : Nat), i + k = x.2.2.2.2.1.length → sL24Deliver_D4 (t, ((i : Int), (x, ()))) =
    if t ∈ x.2.2.2.2.1.drop i then some ((2, ()), (x, ())) else if 3 ≤ x.2.2.2.2.1.length then some ((1, ()), (x, ())) else some ((0, ()), ((x.1, (x.2.1, (x.2.2.1, (x.2.2.2.1, (x.2.2.2.2.1 ++ [t], x.2.2.2.2.2))))), ())) := by
  have hl : x.2.2.2.2.1.length ≤ 16777216 := hf.2.2.2.2.1.1
  intro k
  induction k with
  | zero =>
    intro i hi
    rw [sL24Deliver_q4, show (i : Int) = (x.2.2.2.2.1.length : Int) by omega, ilt_end, cnd_f, show i = x.2.2.2.2.1.length by omega]
    rw [app_fits (by decide) (by simp; omega), cnd_t, app_nil, app_fits (by decide) (by simp; omega), cnd_t, app_one, ige_d, cnd_d]
    simp only [List.drop_length, List.not_mem_nil, if_false, len_d]
    by_cases h : 3 ≤ x.2.2.2.2.1.length
    · have : (3 : Int) ≤ (x.2.2.2.2.1.length : Int) := by omega
      rw [if_pos this, if_pos h]
    · have : ¬ (3 : Int) ≤ (x.2.2.2.2.1.length : Int) := by omega
      rw [if_neg this, if_neg h]
  | succ k ih =>
    intro i hi
    have h : i < x.2.2.2.2.1.length := by omega
    rw [sL24Deliver_q4, ilt_at h, cnd_t, inb_at h, cnd_t, rd_at h, seq_d, cnd_d, next_at (by omega), ih (i + 1) (by omega), List.drop_eq_getElem_cons h]
    by_cases he : x.2.2.2.2.1[i] = t
    · rw [if_pos he, if_pos (by rw [he]; simp)]
    · rw [if_neg he]
      have : t ∈ x.2.2.2.2.1[i] :: x.2.2.2.2.1.drop (i + 1) ↔ t ∈ x.2.2.2.2.1.drop (i + 1) := ⟨fun h => (List.mem_cons.1 h).resolve_left (Ne.symm he), fun h => List.mem_cons_of_mem _ h⟩
      simp only [this]
theorem deliver_same (x : tBridge) (t : ByteArray) (h : Small TBridge x) (ht : t.size ≤ 1048576) : ∃ r c, sDeliver_d (x, (t, ())) = some ((r, (c, ())), ()) ∧ iDeliver_d (x, (t, ())) = some ((r, (c, ())), ()) ∧ Fine TBridge r := by
  have hf : Fine TBridge x := Bnd.le (by decide) h
  have hl : x.2.2.2.2.1.length ≤ 1048576 := h.2.2.2.2.1.1
  rw [sDeliver_b, sCopyBridge_l x hf, bnd_s, iDeliver_b, iCopyBridge_l x hf, bnd_s, sL24Deliver_b]
  simp only [igt_d, cnd_d]
  by_cases h1 : 600 < ssz t
  · simp only [h1, if_true, bnd_s]
    exact ⟨_, _, rfl, rfl, hf⟩
  · simp only [h1, if_false]
    have hs := sDeliver_loop x t hf x.2.2.2.2.1.length 0 (by omega)
    have hs' : sL24Deliver_D4 (t, (0, (x, ()))) = _ := hs
    rw [hs', contains_l _ _ (by omega), bnd_s, List.drop_zero, cnd_d]
    by_cases h2 : t ∈ x.2.2.2.2.1
    · simp only [h2, if_true, bnd_s]
      exact ⟨_, _, rfl, rfl, hf⟩
    · simp only [h2, if_false, ige_d, cnd_d, len_d]
      by_cases h3 : 3 ≤ x.2.2.2.2.1.length
      · have : (3 : Int) ≤ (x.2.2.2.2.1.length : Int) := by omega
        simp only [h3, this, if_true, bnd_s]
        exact ⟨_, _, rfl, rfl, hf⟩
      · have : ¬ (3 : Int) ≤ (x.2.2.2.2.1.length : Int) := by omega
        simp only [h3, this, if_false, bnd_s]
        have hq := app_fits (xs := x.2.2.2.2.1) (ys := [t]) (z := 1) (by decide) (by simp; omega)
        simp only [len_d] at hq
        rw [hq, cnd_t, app_one]
        refine ⟨_, _, rfl, rfl, hf.1, hf.2.1, hf.2.2.1, trivial, ⟨?_, fun y hy => ?_⟩, trivial, trivial⟩
        · simp; omega
        · rcases List.mem_append.1 hy with hy | hy
          · exact hf.2.2.2.2.1.2 y hy
          · simp at hy; subst hy; exact Nat.le_trans ht (by decide)
end Go.Proofs.Ytegdhiadikjdbaa
