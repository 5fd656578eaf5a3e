/- ChainOk of the program and of the reference: the plain law. -/
import Derived.Test.YtegdhiadikjdbaaCh2
set_option linter.unusedVariables false
set_option linter.unusedSimpArgs false
namespace Go.Proofs.Ytegdhiadikjdbaa
open Go.TV

def okAll (ok : Nat → Bool) : Nat → Nat → Bool
  | 0, _ => true
  | k + 1, i => bif ok i then okAll ok k (i + 1) else false
theorem all_loop {α : Type} {D : α → Option ((Bool × Unit) × Unit)} {st : Nat → α} {ok : Nat → Bool} {e : Bool} {n : Nat} (hs : ∀ i, i < n → D (st i) = bif ok i then D (st (i + 1)) else some ((false, ()), ())) (he : D (st n) = some ((e, ()), ())) :
    ∀ k i, i + k = n → D (st i) = some ((bif okAll ok k i then e else false, ()), ()) := by
  intro k
  induction k with
  | zero => intro i hi; rw [show i = n by omega, he]; rfl
  | succ k ih =>
    intro i hi
    rw [hs i (by omega)]
    simp only [okAll]
    cases ok i
    · rfl
    · exact ih (i + 1) (by omega)

theorem in_law (z : parsDen p41) : d41 z = some ((bif ilt z.1 z.2.1 then false else !(igt z.1 z.2.2.1), ()), ()) := by
  obtain ⟨m, a, b, u⟩ := z
  change Int at m
  change Int at a
  change Int at b
  simp only [d41, cnd, ige, ile, ilt, igt]
  by_cases h : m < a
  · have h1 : ¬ m ≥ a := by omega
    simp only [h, h1, decide_true, decide_false, cond_true, cond_false]
  · have h1 : m ≥ a := by omega
    simp only [h, h1, decide_true, decide_false, cond_true, cond_false]
    by_cases h2 : m > b
    · have h3 : ¬ m ≤ b := by omega
      simp only [h2, h3, decide_true, decide_false, Bool.not_true]
    · have h3 : m ≤ b := by omega
      simp only [h2, h3, decide_true, decide_false, Bool.not_false]

abbrev PT : Ty := .prod .str (.prod .str .unit)
abbrev AT : Ty := .prod .str (.prod (.int .i64) (.prod (.int .i64) (.prod (.sl PT) .unit)))
def pz : PT.den := ((bs []), ((bs []), ()))
def az : AT.den := ((bs []), ((0 : Int), ((0 : Int), ([], ()))))
/-- the key of the one ahead is not lesser -/
def disord (b : Bool) (p q : ByteArray) : Bool := bif b then sge p q else false
def pok (xs : List PT.den) (i : Nat) : Bool :=
  bif ine (ssz (rd pz xs i).1) 4 then false else
  bif ilt (ssz (rd pz xs i).2.1) 1 then false else
  bif igt (ssz (rd pz xs i).2.1) 60 then false else
  !(disord (igt (i : Int) 0) (rd pz xs (i - 1 : Int)).1 (rd pz xs i).1)
def PO (xs : List PT.den) : Bool := bif okAll (pok xs) xs.length 0 then decide (xs.length ≤ 12) else false
def aok (xs : List AT.den) (i : Nat) : Bool :=
  bif ine (ssz (rd az xs i).1) 4 then false else
  bif disord (igt (i : Int) 0) (rd az xs (i - 1 : Int)).1 (rd az xs i).1 then false else
  bif ilt (rd az xs i).2.1 0 then false else
  bif igt (rd az xs i).2.1 1000 then false else
  bif ilt (rd az xs i).2.2.1 0 then false else
  bif igt (rd az xs i).2.2.1 1000000000 then false else
  PO (rd az xs i).2.2.2.1
def AO (xs : List AT.den) : Bool := bif okAll (aok xs) xs.length 0 then decide (xs.length ≤ 12) else false

section
variable {α : Type} {xs : List α} {i : Nat}
theorem inb_at (h : i < xs.length) : inb (i : Int) (len xs) = true := by
  have : (i : Int) < xs.length := by omega
  simp [inb, len, this]
theorem ilt_at (h : i < xs.length) : ilt (i : Int) (len xs) = true := by
  have : (i : Int) < xs.length := by omega
  simp [ilt, len, this]
theorem ilt_end : ilt (xs.length : Int) (len xs) = false := by simp [ilt, len]
theorem next (h : i < 1048576) : iadd .i64 (i : Int) 1 = ((i + 1 : Nat) : Int) := by rw [iadd_one (by omega) (by omega)]; omega
theorem prev (h : i < 1048576) : isub .i64 (i : Int) 1 = (i : Int) - 1 := isub_small (by omega) (by omega) (by omega) (by omega)
theorem inb_prev (h : i < xs.length) (h0 : igt (i : Int) 0 = true) : inb ((i : Int) - 1) (len xs) = true := by
  simp only [igt, decide_eq_true_eq] at h0
  have : (i : Int) - 1 < xs.length := by omega
  have h2 : (0 : Int) ≤ (i : Int) - 1 := by omega
  show (decide (0 ≤ (i : Int) - 1) && decide ((i : Int) - 1 < xs.length)) = true
  rw [decide_eq_true h2, decide_eq_true this]; rfl
theorem le12 : ile (len xs) 12 = decide (xs.length ≤ 12) := by
  simp only [ile, len]
  by_cases h : xs.length ≤ 12
  · have : (xs.length : Int) ≤ 12 := by omega
    simp [h, this]
  · have : ¬ (xs.length : Int) ≤ 12 := by omega
    simp [h, this]
theorem gt12 : igt (len xs) 12 = !decide (xs.length ≤ 12) := by
  simp only [igt, len]
  by_cases h : xs.length ≤ 12
  · have : ¬ (xs.length : Int) > 12 := by omega
    simp [h, this]
  · have : (xs.length : Int) > 12 := by omega
    simp [h, this]
end

theorem spec_pairs (z : parsDen p73) (hl : z.1.length ≤ 1048576) : d73 z = some ((PO z.1, ()), ()) := by
  obtain ⟨xs, u⟩ := z
  change List PT.den at xs
  replace hl : xs.length ≤ 1048576 := hl
  show D73_2 (xs, (((0 : Nat) : Int), ())) = _
  refine all_loop (D := D73_2) (st := fun i => (xs, ((i : Int), ()))) (ok := pok xs) (n := xs.length) (fun i hi => ?_) ?_ xs.length 0 (by omega)
  · have h1 := inb_at hi
    have h2 := ilt_at hi
    have h3 := next (i := i) (by omega)
    have h4 := prev (i := i) (by omega)
    rw [q73_2]
    simp only [h73_2, h1, h2, h3, h4, cnd, cond_true, in_law, bnd, Option.bind_some, bnot, pok, disord]
    change (bif ine (ssz (rd pz xs i).1) 4 then _ else _) = _
    have h5 := inb_prev hi
    simp only [show (((bs []), ((bs []), ())) : PT.den) = pz from rfl]
    generalize ine (ssz (rd pz xs i).1) 4 = b1
    generalize ilt (ssz (rd pz xs i).2.1) 1 = b2
    generalize igt (ssz (rd pz xs i).2.1) 60 = b3
    generalize sge (rd pz xs ((i : Int) - 1)).1 (rd pz xs i).1 = b4
    cases hg : igt (i : Int) 0
    · cases b1 <;> cases b2 <;> cases b3 <;> rfl
    · rw [h5 hg]
      cases b1 <;> cases b2 <;> cases b3 <;> cases b4 <;> rfl
  · rw [q73_2]
    simp only [h73_2, ilt_end, cnd, cond_false, le12]

theorem impl_pairs (z : parsDen p75) (hl : z.1.length ≤ 1048576) : d75 z = some ((PO z.1, ()), ()) := by
  obtain ⟨xs, u⟩ := z
  change List PT.den at xs
  replace hl : xs.length ≤ 1048576 := hl
  have hloop : D75_4 (xs, (xs, (len xs, (((0 : Nat) : Int), ())))) = some ((bif okAll (pok xs) xs.length 0 then true else false, ()), ()) := by
    refine all_loop (D := D75_4) (st := fun i => (xs, (xs, (len xs, ((i : Int), ()))))) (ok := pok xs) (n := xs.length) (fun i hi => ?_) ?_ xs.length 0 (by omega)
    · have h1 := inb_at hi
      have h2 := ilt_at hi
      have h3 := next (i := i) (by omega)
      have h4 := prev (i := i) (by omega)
      rw [q75_4]
      simp only [h75_4, h1, h2, h3, h4, cnd, cond_true, pok, disord]
      have h5 := inb_prev hi
      simp only [show (((bs []), ((bs []), ())) : PT.den) = pz from rfl]
      generalize ine (ssz (rd pz xs i).1) 4 = b1
      generalize ilt (ssz (rd pz xs i).2.1) 1 = b2
      generalize igt (ssz (rd pz xs i).2.1) 60 = b3
      generalize sge (rd pz xs ((i : Int) - 1)).1 (rd pz xs i).1 = b4
      cases hg : igt (i : Int) 0
      · cases b1 <;> cases b2 <;> cases b3 <;> rfl
      · rw [h5 hg]
        cases b1 <;> cases b2 <;> cases b3 <;> cases b4 <;> rfl
    · rw [q75_4]
      simp only [h75_4, ilt_end, cnd, cond_false]
  show cnd (igt (len xs) 12) (some ((false, ()), ())) (D75_4 (xs, (xs, (len xs, (((0 : Nat) : Int), ()))))) = _
  rw [hloop, gt12]
  unfold PO
  cases decide (xs.length ≤ 12) <;> cases okAll (pok xs) xs.length 0 <;> rfl

theorem spec_accounts (xs : List AT.den) (hl : xs.length ≤ 1048576) (hp : ∀ i : Nat, i < xs.length → (rd az xs i).2.2.2.1.length ≤ 1048576) : d43 (xs, ()) = some ((AO xs, ()), ()) := by
  show D43_2 (xs, (((0 : Nat) : Int), ())) = _
  refine all_loop (D := D43_2) (st := fun i => (xs, ((i : Int), ()))) (ok := aok xs) (n := xs.length) (fun i hi => ?_) ?_ xs.length 0 (by omega)
  · have h1 := inb_at hi
    have h2 := ilt_at hi
    have h3 := next (i := i) (by omega)
    have h4 := prev (i := i) (by omega)
    rw [q43_2]
    simp only [h43_2, h1, h2, h3, h4, cnd, cond_true, in_law, bnd, Option.bind_some, bnot, aok, disord]
    have h5 := inb_prev hi
    simp only [show (((bs []), ((0 : Int), ((0 : Int), ([], ())))) : AT.den) = az from rfl]
    have h6 := spec_pairs ((rd az xs i).2.2.2.1, ()) (hp i hi)
    simp only [h6, Option.bind_some]
    generalize ine (ssz (rd az xs i).1) 4 = b1
    generalize ilt (rd az xs i).2.1 0 = b2
    generalize igt (rd az xs i).2.1 1000 = b3
    generalize ilt (rd az xs i).2.2.1 0 = b5
    generalize igt (rd az xs i).2.2.1 1000000000 = b6
    generalize sge (rd az xs ((i : Int) - 1)).1 (rd az xs i).1 = b4
    generalize PO (rd az xs i).2.2.2.1 = b7
    cases hg : igt (i : Int) 0
    · cases b1 <;> cases b2 <;> cases b3 <;> cases b5 <;> cases b6 <;> cases b7 <;> rfl
    · rw [h5 hg]
      cases b1 <;> cases b4 <;> cases b2 <;> cases b3 <;> cases b5 <;> cases b6 <;> cases b7 <;> rfl
  · rw [q43_2]
    simp only [h43_2, ilt_end, cnd, cond_false, le12]

theorem impl_accounts (xs : List AT.den) (hl : xs.length ≤ 1048576) (hp : ∀ i : Nat, i < xs.length → (rd az xs i).2.2.2.1.length ≤ 1048576) : d45 (xs, ()) = some ((AO xs, ()), ()) := by
  have hloop : D45_4 (xs, (xs, (len xs, (((0 : Nat) : Int), ())))) = some ((bif okAll (aok xs) xs.length 0 then true else false, ()), ()) := by
    refine all_loop (D := D45_4) (st := fun i => (xs, (xs, (len xs, ((i : Int), ()))))) (ok := aok xs) (n := xs.length) (fun i hi => ?_) ?_ xs.length 0 (by omega)
    · have h1 := inb_at hi
      have h2 := ilt_at hi
      have h3 := next (i := i) (by omega)
      have h4 := prev (i := i) (by omega)
      rw [q45_4]
      simp only [h45_4, q45_8, h45_8, h1, h2, h3, h4, cnd, cond_true, bnd, Option.bind_some, bnot, aok, disord]
      have h5 := inb_prev hi
      simp only [show (((bs []), ((0 : Int), ((0 : Int), ([], ())))) : AT.den) = az from rfl]
      have h6 := impl_pairs ((rd az xs i).2.2.2.1, ()) (hp i hi)
      simp only [h6, Option.bind_some]
      generalize ine (ssz (rd az xs i).1) 4 = b1
      generalize ilt (rd az xs i).2.1 0 = b2
      generalize igt (rd az xs i).2.1 1000 = b3
      generalize ilt (rd az xs i).2.2.1 0 = b5
      generalize igt (rd az xs i).2.2.1 1000000000 = b6
      generalize sge (rd az xs ((i : Int) - 1)).1 (rd az xs i).1 = b4
      generalize PO (rd az xs i).2.2.2.1 = b7
      cases hg : igt (i : Int) 0
      · cases b1 <;> cases b2 <;> cases b3 <;> cases b5 <;> cases b6 <;> cases b7 <;> rfl
      · rw [h5 hg]
        cases b1 <;> cases b4 <;> cases b2 <;> cases b3 <;> cases b5 <;> cases b6 <;> cases b7 <;> rfl
    · rw [q45_4]
      simp only [h45_4, ilt_end, cnd, cond_false]
  show cnd (igt (len xs) 12) (some ((false, ()), ())) (D45_4 (xs, (xs, (len xs, (((0 : Nat) : Int), ()))))) = _
  rw [hloop, gt12]
  unfold AO
  cases decide (xs.length ≤ 12) <;> cases okAll (aok xs) xs.length 0 <;> rfl

abbrev CT : Ty := .prod (.int .i64) (.prod (.sl AT) .unit)
theorem chain_same (x : CT.den) (h : Small CT x) : ∃ b : Bool, d15 (x, ()) = some ((b, ()), ()) ∧ d17 (x, ()) = some ((b, ()), ()) := by
  obtain ⟨k, xs, u⟩ := x
  change Int at k
  change List AT.den at xs
  have hl : xs.length ≤ 1048576 := h.2.1.1
  have hp : ∀ i : Nat, i < xs.length → (rd az xs i).2.2.2.1.length ≤ 1048576 := fun i hi => by
    have h1 : rd az xs (i : Int) = xs[i] := by simp [rd, hi]
    rw [h1]
    exact (h.2.1.2 xs[i] (List.getElem_mem hi)).2.2.2.1.1
  simp only [d15, d17, bnd, in_law, Option.bind_some, spec_accounts xs hl hp, impl_accounts xs hl hp, cnd, ilt, ige, igt, ile]
  by_cases h1 : k < 0
  · have e1 : ¬ k ≥ 0 := by omega
    simp only [h1, e1, decide_true, decide_false, cond_true, cond_false]
    exact ⟨_, rfl, rfl⟩
  · have e1 : k ≥ 0 := by omega
    by_cases h2 : k > 99
    · have e2 : ¬ k ≤ 99 := by omega
      simp only [h1, e1, h2, e2, decide_true, decide_false, cond_true, cond_false, Bool.not_true]
      exact ⟨_, rfl, rfl⟩
    · have e2 : k ≤ 99 := by omega
      simp only [h1, e1, h2, e2, decide_true, decide_false, cond_true, cond_false, Bool.not_false]
      exact ⟨_, rfl, rfl⟩

theorem chain_law (x : CT.den) (hg : GoodV CT x) : d4 (x, ()) = some ((true, ()), ()) := by
  obtain ⟨r, h1, h2⟩ := sz14 x 1048576 hg (by decide) (by decide)
  simp only [d4, bnd, h1, Option.bind_some]
  by_cases hr : r < 0
  · simp only [ilt, hr, decide_true, cnd, cond_true]
  · have hs := (h2 (by omega)).2
    obtain ⟨b, e1, e2⟩ := chain_same x hs
    simp only [ilt, hr, decide_false, cnd, cond_false, to16 x hs, e1, e2, eq18 x hs, Option.bind_some, bneB_self, bnot, Bool.not_true]
end Go.Proofs.Ytegdhiadikjdbaa
