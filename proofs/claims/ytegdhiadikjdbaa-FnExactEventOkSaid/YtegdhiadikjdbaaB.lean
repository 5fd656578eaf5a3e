/- FnExactEventOk: the program's EventOk answers as the reference's does, for every event. Of no condition. -/
import Derived.Test.YtegdhiadikjdbaaA
import Derived.WalkKit
import Derived.ProofKit
import Derived.OpenShut
import Derived.ShutString
import Derived.ChangeOld
import Derived.Below
set_option linter.unusedVariables false
set_option linter.unusedSimpArgs false
namespace Go.Proofs.Ytegdhiadikjdbaa
open Go.TV
open Go.ChangeShapes Go.WideShapes Go.ChangeAt Go.RowKit

theorem own : ownKnob Try.prog.godebug = none := by kernel_rfl
theorem laidOut : laidOutB Try.prog = true := by kernel_rfl

/-! the plain law -/
theorem in_law (z : parsDen p41) : d41 z = some ((decide (z.2.1 ≤ z.1) && decide (z.1 ≤ z.2.2.1), ()), ()) := by
  simp only [d41, cnd, ige, ile]
  by_cases h : z.1 ≥ z.2.1
  · simp [h]
  · simp [h]
theorem event_same (x : parsDen p11) : d13 x = d11 x ∧ ∃ r : Bool, d11 x = some ((r, ()), ()) := by
  obtain ⟨⟨k, a, n, t, u⟩, v⟩ := x
  change Int at k
  change Int at a
  change Int at n
  simp only [d11, d13, bnd, in_law, Option.bind_some]
  generalize seq t (bs []) = q
  generalize ssz t = m
  simp only [cnd, ilt, ile, igt, ieq, bnot]
  by_cases h2 : k < 1
  · have e1 : ¬ 1 ≤ k := by omega
    simp only [h2, e1, decide_true, decide_false, Bool.false_and, Bool.not_false, cond_true]
    exact ⟨trivial, _, rfl⟩
  · have e1 : 1 ≤ k := by omega
    by_cases h3 : k > 7
    · have e2 : ¬ k ≤ 7 := by omega
      simp only [h2, e1, h3, e2, decide_true, decide_false, Bool.and_false, Bool.not_false, cond_true, cond_false]
      exact ⟨trivial, _, rfl⟩
    · have e2 : k ≤ 7 := by omega
      simp only [h2, e1, h3, e2, decide_true, decide_false, Bool.and_self, Bool.not_true, cond_false]
      refine ⟨trivial, ?_⟩
      cases decide (a < 0)
      · cases decide (n < 0)
        · cases (k == 2)
          · cases (k == 7)
            · exact ⟨_, rfl⟩
            · exact ⟨_, rfl⟩
          · exact ⟨_, rfl⟩
        · exact ⟨_, rfl⟩
      · exact ⟨_, rfl⟩
theorem event_law (x : (Ty.prod (.int .i64) (.prod (.int .i64) (.prod (.int .i64) (.prod .str .unit)))).den) : d3 (x, ()) = some ((true, ()), ()) := by
  simp only [d3, d10, d12, bnd, Option.bind_some]
  generalize hy : ((_ : (Ty.prod (.int .i64) (.prod (.int .i64) (.prod (.int .i64) (.prod .str .unit)))).den), ()) = y
  obtain ⟨h1, r, h2⟩ := event_same y
  rw [h1, h2]
  simp only [Option.bind_some, cnd, bneB]
  generalize isub .i64 (1048576 : Int) (ssz x.2.2.2.1) = l
  generalize hc : ilt l (0 : Int) = c
  cases c
  · simp only [cond_false, Option.bind_some, hc]
    cases r <;> rfl
  · cases r <;> rfl

set_option maxRecDepth 100000 in
theorem lifted (os : Os) (started : os.Started) (H : Type) (enc : TypeId × Value → H) :
    ReturnsInHanded {} Try.checked os 3 .any (Rows.fnExactEventOkSpec.pre6 enc Try.prog Try.f3 Rows.fnExactEventOkRow.domain false) (Rows.fnExactEventOkSpec.post enc Try.prog Try.f3 false true false false) := by
  refine returnsInHanded_of_change (C := Try.checked) own started (by kernel_rfl) Try.func3
    (ChangeSpec.witness6 (enc := enc) (C := Try.checked) false ⟨#[], #[.agg #[.int .i64 0, .int .i64 0, .int .i64 0, .string ⟨#[]⟩]], []⟩ 8 (by kernel_rfl) (by kernel_rfl) (by kernel_rfl) (by kernel_rfl)) ?_
  intro W base args ds gs before hval0 hW hcnd _
  have hval : ∀ (j : Nat) t v, Try.f3.params[j]? = some t → args[j]? = some v → Value.okWide Try.prog W .any base t v := hval0
  have hW' := hW
  obtain ⟨p, q, hA0, hV, rfl, hfz, hnd⟩ := hW
  have hA : DataW.TrodAll enc Try.prog W 0 (fun _ => true) true Try.f3.params.toList args.toList ds p := hA0
  rw [Try.params3] at hA hval
  obtain ⟨v0, vs0, d0, ds0, p0, q0, hargs, rfl, rfl, h0, r0⟩ := trodAll_cons hA
  obtain ⟨rfl, rfl, rfl⟩ := trodAll_nil r0
  obtain rfl : args = #[v0] := by cases args; simp_all
  obtain ⟨rfl, rfl⟩ := trodVars_none hV
  have k0 := h0
  have lt0 : ∀ x ∈ p0, x.block < W.heap.size := by obtain ⟨m, hm⟩ := k0; exact DataW.trod_lt m _ _ _ hm
  obtain ⟨x0, g0, a0⟩ := row_arg (η := fun _ => none) (ttB_ok tts tts_ok _ _ rfl).1 (by rfl) (hval 0 _ v0 rfl rfl) h0
  obtain ⟨cs0, rep0, hv0⟩ := a0 [3, 0]
  clear hA0 hval0
  refine (law_calls k3 (vals := [v0]) (x := (x0, ())) (η := fun _ => none) (fun i t x o hi => by cases hi) ⟨⟨cs0, rep0, hv0⟩, trivial⟩ (event_law x0)).mono fun e W' ⟨he, bel⟩ => ?_
  subst he
  exact ⟨_, rfl, _, _, _, [], _, [], hW', trodAll_mk1 (shut_bool (ttB_ok tts tts_ok 4 .bool rfl).1.2 _), (trodAll_cons_mk (Below.trod laidOut (by kernel_rfl) (of_decide_eq_true (by kernel_rfl)) k0 bel lt0) trodAll_mk0), rfl, bel.frame _, fun h => by cases h⟩

theorem over : Rows.fnExactEventOkRow.holds Try.pinned (OpenSpec.ofChange Rows.fnExactEventOkSpec) :=
  OpenClaim.holds_of_wide 3 Try.f3 rfl rfl rfl rfl rfl rfl rfl ⟨rfl, rfl, rfl, rfl, rfl⟩ rfl rfl rfl rfl rfl (by kernel_rfl) Try.func3 (by kernel_rfl)
    (of_decide_eq_true (by kernel_rfl)) (by unfold Func.isWrapper; first | (rw [if_pos (by decide +kernel)]; kernel_rfl) | (rw [if_neg (by decide +kernel)]; exact ⟨rfl, rfl⟩))
    (fun os started H enc _ => lifted os started H enc)

theorem event_holds : Rows.FnExactEventOkSaid := over
#print axioms event_holds
end Go.Proofs.Ytegdhiadikjdbaa
