/- Texts of bytes, of numbers; what is shown of a client. Of no condition. -/
import Derived.Test.YtonggnnjobapcaaGreatDoorTA
import Derived.Lib.ItoaLen
set_option linter.unusedVariables false
set_option linter.unusedSimpArgs false
set_option maxRecDepth 100000
namespace Go.Proofs.YtonggnnjobapcaaGreatDoor
open Go.TV

/-! bytes -/
theorem sat_byte (s : ByteArray) (i : Int) : 0 ≤ sat s i ∧ sat s i < 256 := by
  unfold sat
  have := UInt8.toNat_lt ((s[i.toNat]?).getD 0)
  omega
def fig (d : Int) : Int := if d < 10 then 48 + d else 87 + d
def hexL : List UInt8 → List Int
  | [] => []
  | b :: r => fig ((b.toNat : Int) / 16) :: fig ((b.toNat : Int) % 16) :: hexL r
def hexV (s : ByteArray) : ByteArray := sof (hexL s.data.toList)
theorem hexL_len : ∀ l, (hexL l).length = 2 * l.length
  | [] => rfl
  | b :: r => by rw [hexL, List.length_cons, List.length_cons, hexL_len r, List.length_cons]; omega
theorem hexL_app : ∀ a b, hexL (a ++ b) = hexL a ++ hexL b
  | [], b => rfl
  | x :: a, b => by simp only [List.cons_append, hexL, hexL_app a b]
theorem fig_test : allB' 16 (fun d => decide ((if (d : Int) < 10 then iconv .u8 (iadd .i64 48 (d : Int)) else iconv .u8 (isub .i64 (iadd .i64 97 (d : Int)) 10)) = fig (d : Int))) = true := by kernel_rfl
theorem sFigure_l (d : Int) (h0 : 0 ≤ d) (h1 : d < 16) : sL01Figure_d (d, ()) = some ((fig d, ()), ()) := by
  obtain ⟨n, rfl⟩ := Int.eq_ofNat_of_zero_le h0
  have := of_decide_eq_true (allB'_of _ _ fig_test n (by omega))
  rw [sL01Figure_b, ilt_d, cnd_d, ← this]
  split <;> rfl
theorem sat_at (s : ByteArray) (i : Nat) (h : i < s.size) : sat s (i : Int) = ((s.data.toList[i]'(by rw [Array.length_toList]; exact h)).toNat : Int) := by
  unfold sat
  rw [Int.toNat_natCast, getElem?_pos s i h]
  rfl
theorem take_data (s : ByteArray) (i : Nat) (h : i < s.size) : hexL (s.data.toList.take (i + 1)) = hexL (s.data.toList.take i) ++ [fig (sat s (i : Int) / 16), fig (sat s (i : Int) % 16)] := by
  have hl : i < s.data.toList.length := by rw [Array.length_toList]; exact h
  rw [List.take_succ_eq_append_getElem hl, hexL_app, sat_at s i h]
  rfl
theorem take_all (s : ByteArray) : s.data.toList.take s.size = s.data.toList := by
  apply List.take_of_length_le
  rw [Array.length_toList]; exact Nat.le_refl _
theorem byte_test : allB' 256 (fun b => decide (iconv .i64 (b : Int) = (b : Int) ∧ ishr .u8 (b : Int) 4 = (b : Int) / 16 ∧ iand .u8 (b : Int) 15 = (b : Int) % 16)) = true := by kernel_rfl
theorem dig_test : allB' 16 (fun d => decide (sat (bs [48, 49, 50, 51, 52, 53, 54, 55, 56, 57, 97, 98, 99, 100, 101, 102]) (d : Int) = fig (d : Int))) = true := by kernel_rfl
theorem byte_ops {b : Int} (h0 : 0 ≤ b) (h1 : b < 256) : iconv .i64 b = b ∧ ishr .u8 b 4 = b / 16 ∧ iand .u8 b 15 = b % 16 := by
  obtain ⟨n, rfl⟩ := Int.eq_ofNat_of_zero_le h0
  exact of_decide_eq_true (allB'_of _ _ byte_test n (by omega))
theorem dig_at {d : Int} (h0 : 0 ≤ d) (h1 : d < 16) : sat (bs [48, 49, 50, 51, 52, 53, 54, 55, 56, 57, 97, 98, 99, 100, 101, 102]) d = fig d := by
  obtain ⟨n, rfl⟩ := Int.eq_ofNat_of_zero_le h0
  exact of_decide_eq_true (allB'_of _ _ dig_test n (by omega))
theorem ssz_at {s : ByteArray} {i : Nat} (h : i < s.size) : ilt (i : Int) (ssz s) = true ∧ inb (i : Int) (ssz s) = true := by
  rw [ssz_d]; exact ⟨ilt_t (by omega), inb_t (by omega) (by omega)⟩
theorem ssz_end {s : ByteArray} : ilt (s.size : Int) (ssz s) = false := by rw [ssz_d]; exact ilt_f (by omega)
noncomputable def hexR (s : ByteArray) : tL21Cur := if s.size ≤ 20000 then (hexV s, (true, ())) else zL21Cur
theorem sHex_l (s : ByteArray) (hs : s.size ≤ 1099511627776) : sHex_d (s, ()) = some ((hexR s), ()) := by
  unfold hexR
  rw [sHex_b, ssz_d]
  by_cases h : s.size ≤ 20000
  · rw [if_pos h, igt_f (by omega), cnd_f]
    refine (loop_to (D := sHex_D5) (st := fun i (_ : Unit) => (s, (hexL (s.data.toList.take i), ((i : Int), ())))) (n := s.size) (P := fun _ => True) (step := fun _ u => u) (fun i _ hi _ => by
      refine ⟨?_, trivial⟩
      obtain ⟨b0, b1⟩ := sat_byte s (i : Int)
      rw [sHex_q5, (ssz_at hi).1, cnd_t, (ssz_at hi).2, cnd_t, show nz 16 = true from rfl, cnd_t, (byte_ops b0 b1).1, iquo_64 b0 (by omega) (by omega), sFigure_l _ (by omega) (by omega), bnd_s, cnd_t, cnd_t, irem_0 b0, sFigure_l _ (by omega) (by omega), bnd_s,
        app_fits (by decide) (by have := hexL_len (s.data.toList.take i); have := List.length_take_le i s.data.toList; simp; omega), cnd_t, next_at (by omega), take_data s i hi]
      rfl) s.size 0 () (by omega) trivial).1.trans ?_
    rw [sHex_q5, ssz_end, cnd_f, take_all]
    rfl
  · rw [if_neg h, igt_t (by omega), cnd_t]
theorem iHex_l (s : ByteArray) (hs : s.size ≤ 1099511627776) : iHex_d (s, ()) = some ((hexR s), ()) := by
  unfold hexR
  rw [iHex_b, ssz_d]
  by_cases h : s.size ≤ 20000
  · rw [if_pos h, igt_f (by omega), cnd_f, imul_64 (by omega) (by omega), inb2_t (by omega) (by omega) (by omega), show both true (fits (2 * (s.size : Int)) 1) = true from fits_t (by omega) (by omega), cnd_t]
    refine (loop_to (D := iHex_D6) (st := fun i (_ : Unit) => (s, (bs [48, 49, 50, 51, 52, 53, 54, 55, 56, 57, 97, 98, 99, 100, 101, 102], (hexL (s.data.toList.take i), ((i : Int), ()))))) (n := s.size) (P := fun _ => True) (step := fun _ u => u) (fun i _ hi _ => by
      refine ⟨?_, trivial⟩
      obtain ⟨b0, b1⟩ := sat_byte s (i : Int)
      obtain ⟨e1, e2, e3⟩ := byte_ops b0 b1
      rw [iHex_q6, (ssz_at hi).1, cnd_t, (ssz_at hi).2, cnd_t, show nn 4 = true from rfl, cnd_t, e2, e3, ssz_d, size_bs, inb_t (by omega) (by simp; omega), cnd_t, cnd_t, inb_t (by omega) (by simp; omega), cnd_t, dig_at (by omega) (by omega), dig_at (by omega) (by omega),
        app_fits (by decide) (by have := hexL_len (s.data.toList.take i); have := List.length_take_le i s.data.toList; simp; omega), cnd_t, next_at (by omega), take_data s i hi]
      rfl) s.size 0 () (by omega) trivial).1.trans ?_
    rw [iHex_q6, ssz_end, cnd_f, take_all]
    rfl
  · rw [if_neg h, igt_t (by omega), cnd_t]
theorem hexR_size (s : ByteArray) : (hexR s).1.size ≤ 40000 := by
  unfold hexR
  split
  · show (hexV s).size ≤ _
    have : s.data.toList.length = s.size := Array.length_toList
    rw [hexV, size_sof, hexL_len]; omega
  · exact Nat.zero_le _

/-! numerals -/
def ofL (l : List UInt8) : ByteArray := ⟨l.toArray⟩
theorem scat_ofL (a b : List UInt8) : scat (ofL a) (ofL b) = ofL (a ++ b) := by
  apply ba_ext
  simp [scat, ofL, ByteArray.data_append]
theorem ofL_size (l : List UInt8) : (ofL l).size = l.length := by simp [ofL, ByteArray.size]
theorem fig_ofL (d : Nat) (h : d < 10) : sof [fig (d : Int)] = ofL [UInt8.ofNat (48 + d)] := by
  have e : (fig (d : Int)).toNat = 48 + d := by unfold fig; rw [if_pos (by omega)]; omega
  apply ba_ext
  simp [sof, ofL, e]
theorem sDec_step (u : Nat) (hu : u ≠ 0) (hb : u ≤ 9223372036854775807) (neg : Bool) (acc : List UInt8) (ha : acc.length ≤ 1000) : sDecimal_D5 ((u : Int), (neg, (ofL acc, ()))) = sDecimal_D5 (((u / 10 : Nat) : Int), (neg, (ofL (UInt8.ofNat (48 + u % 10) :: acc), ()))) := by
  have hm := Nat.mod_lt u (show 10 > 0 by omega)
  have em : irem (u : Int) 10 = ((u % 10 : Nat) : Int) := by rw [irem_0 (by omega)]; rfl
  have eq : iquo .i64 (u : Int) 10 = ((u / 10 : Nat) : Int) := by rw [iquo_64 (by omega) (by omega) (by omega)]; rfl
  have e0 : ine (u : Int) 0 = true := by rw [ine_d, decide_eq_false (by omega)]; rfl
  rw [sDecimal_q5, e0, cnd_t, show nz 10 = true from rfl, cnd_t, em, ilt_f (by omega), cnd_f, sDecimal_q9, sFigure_l _ (by omega) (by omega), bnd_s, fig_ofL _ hm, cat_fits (by rw [ofL_size, ofL_size]; simp; omega), cnd_t, show nz 10 = true from rfl, cnd_t, eq, scat_ofL]
  rfl
theorem sDec_loop : ∀ (k u : Nat), u ≠ 0 → u < 10 ^ k → u ≤ 9223372036854775807 → ∀ (neg : Bool) (acc : List UInt8), acc.length + k ≤ 1000 → sDecimal_D5 ((u : Int), (neg, (ofL acc, ()))) = sDecimal_D5 (0, (neg, (ofL (Lib.decDigits u ++ acc), ())))
  | 0, u, hu, hk, hb, neg, acc, ha => by simp at hk; omega
  | k + 1, u, hu, hk, hb, neg, acc, ha => by
    rw [sDec_step u hu hb neg acc (by omega)]
    by_cases h : u < 10
    · rw [Lib.decDigits_one h, Nat.div_eq_of_lt h, Nat.mod_eq_of_lt h]; rfl
    · rw [sDec_loop k (u / 10) (by omega) (by rw [Nat.pow_succ] at hk; omega) (by omega) neg _ (by simp; omega)]
      rw [show Lib.decDigits u = Lib.decDigits (u / 10) ++ [UInt8.ofNat (48 + u % 10)] from by rw [Lib.decDigits, dif_neg h], List.append_assoc]
      rfl
theorem sDecimal_l (n : Int) (h0 : 0 ≤ n) (h1 : n ≤ 9223372036854775807) : sDecimal_d (n, ()) = some ((itoaB n, ()), ()) := by
  obtain ⟨u, rfl⟩ := Int.eq_ofNat_of_zero_le h0
  have e : itoaB (u : Int) = ofL (Lib.decDigits u) := by
    unfold itoaB Lib.itoa
    rw [if_neg (by omega)]; rfl
  rw [sDecimal_b, e, ieq_d]
  by_cases hu : u = 0
  · subst hu
    rw [Lib.decDigits_one (by omega)]
    rfl
  · rw [decide_eq_false (by omega), cnd_f, ilt_f (by omega)]
    refine (sDec_loop 20 u hu (by omega) (by omega) false [] (by simp)).trans ?_
    rw [sDecimal_q5, show ine 0 0 = false from rfl, cnd_f, cnd_f, List.append_nil]
theorem iDecimal_l (n : Int) (h0 : -9223372036854775808 ≤ n) (h1 : n ≤ 9223372036854775807) : iDecimal_d (n, ()) = some ((itoaB n, ()), ()) := by
  have : g_strconv_Itoa_d (n, ()) = some ((itoaB n, ()), ()) := if_pos ⟨h0, h1⟩
  rw [iDecimal_b, this, bnd_s]
theorem itoaB_size (n : Int) (h0 : -9223372036854775808 ≤ n) (h1 : n ≤ 9223372036854775807) : (itoaB n).size ≤ 21 := by
  have := Lib.itoa_length_le n h0 h1
  simpa [itoaB, ByteArray.size] using this
theorem sNum_l (n : Int) (h1 : n ≤ 9223372036854775807) : sL28Num_d (n, ()) = some ((itoaB (imax n 0), ()), ()) := by
  rw [sL28Num_b]
  by_cases h : n < 0
  · rw [ilt_t h, cnd_t, show imax n 0 = 0 from by unfold imax; omega]
    have e : itoaB 0 = ofL (Lib.decDigits 0) := rfl
    rw [e, Lib.decDigits_one (by omega)]
    rfl
  · rw [ilt_f (by omega), cnd_f, sDecimal_l n (by omega) h1, bnd_s, show imax n 0 = n from by unfold imax; omega]

/-! what is shown of a client -/
def hex8 (s : ByteArray) : ByteArray := ssub s 0 (imin 8 (ssz s))
theorem hex8_size (s : ByteArray) : (hex8 s).size ≤ 8 := by
  unfold hex8 ssub imin
  rw [ByteArray.size_extract, ssz_d]; omega
noncomputable def clientText (c : tClient) : ByteArray :=
  scat (scat (scat (scat (scat (scat (bs [102, 105, 110, 97, 108, 32]) (itoaB (imax c.1.1 0))) (bs [32])) (hex8 (hexR (headRoot c.1)).1)) (bs [32])) (bif c.2.2.2.1 then bs [110, 101, 120, 116] else bs [45])) (bs [10])
theorem headRoot_size (h : tHead) : (headRoot h).size ≤ 32 := by
  unfold headRoot
  cases headOk h
  · exact Nat.zero_le _
  · exact rootV_size _
theorem imax_64 {n : Int} (h1 : n ≤ 9223372036854775807) : -9223372036854775808 ≤ imax n 0 ∧ imax n 0 ≤ 9223372036854775807 := by unfold imax; omega
theorem ssub_all (s : ByteArray) : ssub s 0 (ssz s) = s := by
  unfold ssub
  rw [ssz_d, Int.toNat_natCast]
  exact ByteArray.extract_zero_size
theorem iShowClient_l (c : tClient) (h1 : c.1.1 ≤ 9223372036854775807) : iShowClient_d (c, ()) = some ((clientText c, ()), ()) := by
  have hr := headRoot_size c.1
  rw [iShowClient_b, iHeadRoot_l, bnd_s, iHex_l (headRoot c.1) (by omega), bnd_s]
  have hx := hexR_size (headRoot c.1)
  generalize hq : (hexR (headRoot c.1)).1 = q at hx
  have h8 : (ssub q 0 (imin 8 (ssz q))).size ≤ 8 := hex8_size q
  obtain ⟨m0, m1⟩ := imax_64 h1
  have hi := itoaB_size _ m0 m1
  have main : ∀ t : ByteArray, t.size ≤ 4 → iShowClient_D5 (q, (t, (c, ()))) = some ((scat (scat (scat (scat (scat (scat (bs [102, 105, 110, 97, 108, 32]) (itoaB (imax c.1.1 0))) (bs [32])) (hex8 q)) (bs [32])) t) (bs [10]), ()), ()) := by
    intro t ht
    rw [iShowClient_q5, iDecimal_l _ m0 m1, bnd_s]
    simp only []
    rw [cat_fits (by simp only [size_scat, size_bs, List.length]; omega), cnd_t, cat_fits (by simp only [size_scat, size_bs, List.length]; omega), cnd_t, inb2_t (by omega) (by unfold imin; rw [ssz_d]; omega) (by unfold imin; rw [ssz_d]; omega), cnd_t,
      cat_fits (by simp only [size_scat, size_bs, List.length]; omega), cnd_t, cat_fits (by simp only [size_scat, size_bs, List.length]; omega), cnd_t, cat_fits (by simp only [size_scat, size_bs, List.length]; omega), cnd_t, cat_fits (by simp only [size_scat, size_bs, List.length]; omega), cnd_t]
    rfl
  unfold clientText
  rw [hq]
  cases c.2.2.2.1
  · exact main _ (by rw [size_bs]; simp)
  · exact main _ (by rw [size_bs]; simp)
theorem sShowClient_l (c : tClient) (h1 : c.1.1 ≤ 9223372036854775807) : sShowClient_d (c, ()) = some ((clientText c, ()), ()) := by
  have hr := headRoot_size c.1
  rw [sShowClient_b, sHeadRoot_l, bnd_s, sHex_l (headRoot c.1) (by omega), bnd_s]
  have hx := hexR_size (headRoot c.1)
  generalize hq : (hexR (headRoot c.1)).1 = q at hx
  have hi := itoaB_size _ (imax_64 h1).1 (imax_64 h1).2
  have main : ∀ z t : ByteArray, z.size ≤ 8 → t.size ≤ 4 → sShowClient_D7 (z, (t, (c, ()))) = some ((scat (scat (scat (scat (scat (scat (bs [102, 105, 110, 97, 108, 32]) (itoaB (imax c.1.1 0))) (bs [32])) z) (bs [32])) t) (bs [10]), ()), ()) := by
    intro z t hz ht
    rw [sShowClient_q7, sNum_l _ h1, bnd_s]
    simp only []
    rw [cat_fits (by simp only [size_scat, size_bs, List.length]; omega), cnd_t, cat_fits (by simp only [size_scat, size_bs, List.length]; omega), cnd_t,
      cat_fits (by simp only [size_scat, size_bs, List.length]; omega), cnd_t, cat_fits (by simp only [size_scat, size_bs, List.length]; omega), cnd_t, cat_fits (by simp only [size_scat, size_bs, List.length]; omega), cnd_t, cat_fits (by simp only [size_scat, size_bs, List.length]; omega), cnd_t]
  have two : ∀ z : ByteArray, z.size ≤ 8 → sShowClient_D4 (z, (c, ())) = some ((scat (scat (scat (scat (scat (scat (bs [102, 105, 110, 97, 108, 32]) (itoaB (imax c.1.1 0))) (bs [32])) z) (bs [32])) (bif c.2.2.2.1 then bs [110, 101, 120, 116] else bs [45])) (bs [10]), ()), ()) := by
    intro z hz
    rw [sShowClient_q4]
    cases c.2.2.2.1
    · exact main z _ hz (by rw [size_bs]; simp)
    · exact main z _ hz (by rw [size_bs]; simp)
  unfold clientText
  rw [hq]
  by_cases h : 8 < q.size
  · rw [igt_t (by rw [ssz_d]; omega), cnd_t, inb2_t (by omega) (by omega) (by rw [ssz_d]; omega), cnd_t]
    have e : hex8 q = ssub q 0 8 := by unfold hex8 imin; rw [ssz_d]; congr 1; omega
    rw [e]
    exact two _ (by have := hex8_size q; rw [e] at this; exact this)
  · rw [igt_f (by rw [ssz_d]; omega), cnd_f]
    have e : hex8 q = q := by
      unfold hex8
      rw [show imin 8 (ssz q) = ssz q from by unfold imin; rw [ssz_d]; omega, ssub_all]
    rw [e]
    exact two _ (by omega)
theorem showclient_same (c : tClient) (g : GoodV TClient c) : ∃ r, sShowClient_d (c, ()) = some ((r, ()), ()) ∧ iShowClient_d (c, ()) = some ((r, ()), ()) :=
  ⟨clientText c, sShowClient_l c (good_int g.1.1).2, iShowClient_l c (good_int g.1.1).2⟩
end Go.Proofs.YtonggnnjobapcaaGreatDoor
