/- FnExactChainCommittee: what the law of this name says is so, for every input. Of no condition. -/
import Derived.Test.YtegdhiadikjdbaaLX
import Derived.WalkKit
import Derived.ProofKit
import Derived.OpenShut
import Derived.ShutString
import Derived.ChangeOld
import Derived.Below
set_option linter.unusedVariables false
set_option linter.unusedSimpArgs false
namespace Go.Proofs.Ytegdhiadikjdbaa
open Go.TV
open Go.ChangeShapes Go.WideShapes Go.ChangeAt Go.RowKit

theorem own : ownKnob Try.prog.godebug = none := by kernel_rfl
theorem laidOut : laidOutB Try.prog = true := by kernel_rfl

set_option maxRecDepth 100000 in
theorem lifted (os : Os) (started : os.Started) (H : Type) (enc : TypeId × Value → H) :
    ReturnsInHanded {} Try.checked os 9 .any (Rows.fnExactChainCommitteeSpec.pre6 enc Try.prog Try.f9 Rows.fnExactChainCommitteeRow.domain false) (Rows.fnExactChainCommitteeSpec.post enc Try.prog Try.f9 false true false false) := by
  refine returnsInHanded_of_change (C := Try.checked) own started (by kernel_rfl) Try.func9
    (ChangeSpec.witness6 (enc := enc) (C := Try.checked) false ⟨#[], #[.agg #[.int .i64 0, .slice none 0 0], .int .i64 0], []⟩ 8 (by kernel_rfl) (by kernel_rfl) (by kernel_rfl) (by kernel_rfl)) ?_
  intro W base args ds gs before hval0 hW hcnd _
  have hval : ∀ (j : Nat) t v, Try.f9.params[j]? = some t → args[j]? = some v → Value.okWide Try.prog W .any base t v := hval0
  have hW' := hW
  obtain ⟨p, q, hA0, hV, rfl, hfz, hnd⟩ := hW
  have hA : DataW.TrodAll enc Try.prog W 0 (fun _ => true) true Try.f9.params.toList args.toList ds p := hA0
  rw [Try.params9] at hA hval
  obtain ⟨v0, vs0, d0d, ds0, p0d, q0, hargs0, rfl, rfl, h0, r0d⟩ := trodAll_cons hA
  obtain ⟨v1, vs1, d1d, ds1, p1d, q1, hargs1, rfl, rfl, h1, r1d⟩ := trodAll_cons r0d
  obtain ⟨rfl, rfl, rfl⟩ := trodAll_nil r1d
  obtain rfl : args = #[v0, v1] := by cases args; simp_all
  obtain ⟨rfl, rfl⟩ := trodVars_none hV
  have kk0 := h0
  have lt0 : ∀ x ∈ p0d, x.block < W.heap.size := by obtain ⟨m, hm⟩ := kk0; exact DataW.trod_lt m _ _ _ hm
  obtain ⟨x0, g0d, a0d⟩ := row_arg (η := fun _ => none) (ttB_ok tts tts_ok _ _ rfl).1 (by rfl) (hval 0 _ v0 rfl rfl) h0
  obtain ⟨cs0, rep0, hv0⟩ := a0d [3, 0]
  have kk1 := h1
  have lt1 : ∀ x ∈ p1d, x.block < W.heap.size := by obtain ⟨m, hm⟩ := kk1; exact DataW.trod_lt m _ _ _ hm
  obtain ⟨x1, g1d, a1d⟩ := row_arg (η := fun _ => none) (ttB_ok tts tts_ok _ _ rfl).1 (by rfl) (hval 1 _ v1 rfl rfl) h1
  obtain ⟨cs1, rep1, hv1⟩ := a1d [3, 1]
  clear hA0 hval0
  refine (law_calls wFnExactChainCommittee_k (vals := [v0, v1]) (x := (x0, (x1, ()))) (η := fun _ => none) (fun i t x o hi => by cases hi) ⟨⟨cs0, rep0, hv0⟩, ⟨cs1, rep1, hv1⟩, trivial⟩ (law_ChainCommittee x0 x1 g0d g1d)).mono fun e W' ⟨he, bel⟩ => ?_
  subst he
  exact ⟨_, rfl, _, _, _, [], _, [], hW', trodAll_mk1 (shut_bool (ttB_ok tts tts_ok 4 .bool rfl).1.2 _), (trodAll_cons_mk (Below.trod laidOut (by kernel_rfl) (of_decide_eq_true (by kernel_rfl)) kk0 bel lt0) (trodAll_cons_mk (Below.trod laidOut (by kernel_rfl) (of_decide_eq_true (by kernel_rfl)) kk1 bel lt1) trodAll_mk0)), rfl, bel.frame _, fun h => by cases h⟩

theorem over : Rows.fnExactChainCommitteeRow.holds Try.pinned (OpenSpec.ofChange Rows.fnExactChainCommitteeSpec) :=
  OpenClaim.holds_of_wide 9 Try.f9 rfl rfl rfl rfl rfl rfl rfl ⟨rfl, rfl, rfl, rfl, rfl⟩ rfl rfl rfl rfl rfl (by kernel_rfl) Try.func9 (by kernel_rfl)
    (of_decide_eq_true (by kernel_rfl)) (by unfold Func.isWrapper; first | (rw [if_pos (by decide +kernel)]; kernel_rfl) | (rw [if_neg (by decide +kernel)]; exact ⟨rfl, rfl⟩))
    (fun os started H enc _ => lifted os started H enc)

theorem held : Rows.FnExactChainCommitteeSaid := over
#print axioms held
end Go.Proofs.Ytegdhiadikjdbaa
