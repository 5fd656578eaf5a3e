/- Signatures and bodies: printed by program. -/
import Derived.Test.YtegdhiadikjdbaaUd
import Derived.Test.YtegdhiadikjdbaaRows
set_option linter.unusedVariables false
set_option maxRecDepth 100000
namespace Go.Proofs.Ytegdhiadikjdbaa
open Go.TV
noncomputable section
def tts : List (Nat × Ty) := [(3, (.int .i64)), (4, .bool), (9, .str), (29, (.sl (.prod .str (.prod (.int .i64) (.prod (.int .i64) (.prod (.sl (.prod .str (.prod .str .unit))) .unit)))))), (31, (.prod (.int .i64) (.prod (.sl (.prod .str (.prod (.int .i64) (.prod (.int .i64) (.prod (.sl (.prod .str (.prod .str .unit))) .unit))))) .unit))), (34, (.sl (.prod .str (.prod (.int .i64) (.prod (.int .i64) (.prod (.sl (.prod .str (.prod .str .unit))) .unit)))))), (36, (.prod (.int .i64) (.prod (.sl (.prod .str (.prod (.int .i64) (.prod (.int .i64) (.prod (.sl (.prod .str (.prod .str .unit))) .unit))))) .unit))), (89, (.sl (.prod .str (.prod .str .unit)))), (91, (.prod .str (.prod (.int .i64) (.prod (.int .i64) (.prod (.sl (.prod .str (.prod .str .unit))) .unit))))), (112, (.sl (.prod .str (.prod .str .unit)))), (114, (.prod .str (.prod (.int .i64) (.prod (.int .i64) (.prod (.sl (.prod .str (.prod .str .unit))) .unit))))), (119, (.prod .str (.prod .str .unit))), (150, (.prod .str (.prod .str .unit)))]
theorem tts_ok : ttB Try.prog tts = true := by kernel_rfl
theorem mix_ok : Try.prog.follows .mixedOrders = true := by kernel_rfl
def gls : Nat → Option VV := fun _ => none
def gvs (i : Nat) : Value := .pointer (some ⟨i, 0, none⟩)
-- loop.example/g00321/laws.szPair
@[reducible] def p113 : List Par := [⟨(.prod .str (.prod .str .unit)), .sh, false, false, none⟩, ⟨(.int .i64), .sh, false, false, none⟩]
@[reducible] def r113 : List Rt := [⟨(.int .i64), .sh, false⟩]
def e113 : Env (rsDen r113 × outsDen p113) := { tt := ttOf tts, gl := gls, call := callOf [], joins := [], cut := fun r => none, fz := [] }
def d113 (x : parsDen p113) : Option (rsDen r113 × outsDen p113) := (cnd (ilt (isub .i64 x.2.1 (ssz x.1.1)) (0 : Int)) (some (((-1 : Int), ()), ())) (cnd (ilt (isub .i64 (isub .i64 x.2.1 (ssz x.1.1)) (ssz x.1.2.1)) (0 : Int)) (some (((-1 : Int), ()), ())) (some (((isub .i64 (isub .i64 x.2.1 (ssz x.1.1)) (ssz x.1.2.1)), ()), ()))))
theorem b113 (x : parsDen p113) : runFn Try.f113 p113 r113 e113 x = d113 x := by kernel_rfl
theorem s113 : Sound Try.prog (e113) gvs := ⟨fun _ _ => rfl, fun t T h => (ttB_ok tts tts_ok t T h).1, fun t T h => (ttB_ok tts tts_ok t T h).2, callOf_ok _ (fun e he => by simp at he), mix_ok⟩
theorem k113 : CallsOk Try.prog gls gvs 113 ⟨p113, r113, false, d113⟩ := CallsOk.close (fun k => fn_sound s113 Try.func113 rfl (by decide) (by kernel_rfl) (by kernel_rfl) (f0 := d113) (al := false) (by kernel_rfl) (cf := fun _ _ => none) (fun _ _ h => by cases h) (fun _ _ _ h => by cases h) k) (fun x r h => ⟨0, (b113 x).trans h⟩)
-- loop.example/g00321/laws.szPairS
@[reducible] def p97 : List Par := [⟨(.sl (.prod .str (.prod .str .unit))), .sh, false, false, none⟩, ⟨(.int .i64), .sh, false, false, none⟩]
@[reducible] def r97 : List Rt := [⟨(.int .i64), .sh, false⟩]
@[reducible] def l97_5 : List LV := [.val 0 (.sl (.prod .str (.prod .str .unit))) .sh, .val 1 (.int .i64) .sh, .val 5 (.int .i64) .sh]
def e97 (c5 : lvDen l97_5 → Option (rsDen r97 × outsDen p97)) : Env (rsDen r97 × outsDen p97) := { tt := ttOf tts, gl := gls, call := callOf [(113, ⟨p113, r113, false, d113⟩)], joins := [], cut := fun r => bif Nat.beq r 5 then some ⟨l97_5, c5⟩ else none, fz := [] }
theorem s97 (c5 : lvDen l97_5 → Option (rsDen r97 × outsDen p97)) : Sound Try.prog (e97 c5) gvs := ⟨fun _ _ => rfl, fun t T h => (ttB_ok tts tts_ok t T h).1, fun t T h => (ttB_ok tts tts_ok t T h).2, callOf_ok _ (by simp only [List.forall_mem_cons]; exact ⟨k113, fun e he => by simp at he⟩), mix_ok⟩
def h97_5 (c5 : lvDen l97_5 → Option (rsDen r97 × outsDen p97)) (x : lvDen l97_5) : Option (rsDen r97 × outsDen p97) := (cnd (ilt x.2.2.1 (len x.1)) (cnd (inb x.2.2.1 (len x.1)) (bnd (d113 ((rd ((bs []), ((bs []), ())) x.1 x.2.2.1), (x.2.1, ()))) (fun r2 => (cnd (ilt r2.1.1 (0 : Int)) (some (((-1 : Int), ()), ())) (c5 (x.1, (r2.1.1, ((iadd .i64 x.2.2.1 (1 : Int)), ()))))))) none) (some ((x.2.1, ()), ())))
theorem g97_5 (c5 : lvDen l97_5 → Option (rsDen r97 × outsDen p97)) (x : lvDen l97_5) : runCut Try.f97 p97 r97 (e97 c5) 5 l97_5 x = h97_5 c5 x := by kernel_rfl
def h97 (c5 : lvDen l97_5 → Option (rsDen r97 × outsDen p97)) (x : parsDen p97) : Option (rsDen r97 × outsDen p97) := (cnd (ilt (isub .i64 x.2.1 (len x.1)) (0 : Int)) (some (((-1 : Int), ()), ())) (c5 (x.1, ((isub .i64 x.2.1 (len x.1)), ((0 : Int), ())))))
theorem g97 (c5 : lvDen l97_5 → Option (rsDen r97 × outsDen p97)) (x : parsDen p97) : runFn Try.f97 p97 r97 (e97 c5) x = h97 c5 x := by kernel_rfl
def L97 : Nat → (lvDen l97_5 → Option (rsDen r97 × outsDen p97))
  | 0 => (fun _ => none)
  | k + 1 => (fun x => h97_5 ((L97 k)) x)
theorem m97 : ∀ k x, Le (L97 k x) (L97 (k + 1) x) := by
  intro k
  induction k with
  | zero => exact fun x r h => (by cases h)
  | succ k i0 =>
    intro x
    · show Le (h97_5 ((L97 k)) x) (h97_5 ((L97 (k + 1))) x)
      unfold h97_5
      repeat' (first | exact i0 _ | refine Le.cnd ?_ ?_ | refine Le.bnd ?_ fun _ => ?_ | exact Le.refl _)
noncomputable def D97_5 : lvDen l97_5 → Option (rsDen r97 × outsDen p97) := lim (fun k x => (L97 k) x)
theorem a97_5 (x : lvDen l97_5) : Lims (fun k => (L97 k) x) (D97_5 x) := lim_lims (fun k x => (m97 k) x) x
theorem q97_5 (x : lvDen l97_5) : D97_5 x = h97_5 D97_5 x := Lims.uniq (a97_5 x).shift (by
  show Lims (fun k => h97_5 ((L97 k)) x) _
  unfold h97_5
  repeat' (first | exact a97_5 _ | refine Lims.cnd ?_ ?_ | refine Lims.bnd ?_ fun _ => ?_ | exact Lims.const _))
noncomputable def d97 (x : parsDen p97) : Option (rsDen r97 × outsDen p97) := h97 D97_5 x
theorem a97 (x : parsDen p97) : Lims (fun k => h97 ((L97 k)) x) (d97 x) := by
  unfold d97 h97
  repeat' (first | exact a97_5 _ | refine Lims.cnd ?_ ?_ | refine Lims.bnd ?_ fun _ => ?_ | exact Lims.const _)
theorem k97 : CallsOk Try.prog gls gvs 97 ⟨p97, r97, false, d97⟩ := CallsOk.lims (Fn := fun k x => h97 ((L97 k)) x) (fun k => by
  have := fn_sound (s97 (fun _ => none)) Try.func97 rfl (by decide) (by kernel_rfl) (by kernel_rfl) (f0 := fun _ => none) (al := false) (by kernel_rfl) (cf := fun k => (e97 ((L97 k))).cut) ?_ ?_ k
  · exact this
  · intro r c h x
    change (bif Nat.beq r 5 then some (⟨l97_5, (L97 0)⟩ : Cut (rsDen r97 × outsDen p97)) else none) = some c at h
    cases h0 : Nat.beq r 5 <;> rw [h0] at h
    case true => cases h; rfl
    simp only [cond_false] at h
    cases h
  · intro k r c h x
    change (bif Nat.beq r 5 then some (⟨l97_5, (L97 (k + 1))⟩ : Cut (rsDen r97 × outsDen p97)) else none) = some c at h
    cases h0 : Nat.beq r 5 <;> rw [h0] at h
    case true => cases h; rw [Nat.eq_of_beq_eq_true h0]; exact (g97_5 ((L97 k)) x).symm
    simp only [cond_false] at h
    cases h) a97
-- loop.example/g00321/laws.szAccount
@[reducible] def p72 : List Par := [⟨(.prod .str (.prod (.int .i64) (.prod (.int .i64) (.prod (.sl (.prod .str (.prod .str .unit))) .unit)))), .sh, false, false, none⟩, ⟨(.int .i64), .sh, false, false, none⟩]
@[reducible] def r72 : List Rt := [⟨(.int .i64), .sh, false⟩]
def e72 : Env (rsDen r72 × outsDen p72) := { tt := ttOf tts, gl := gls, call := callOf [(97, ⟨p97, r97, false, d97⟩)], joins := [], cut := fun r => none, fz := [] }
def d72 (x : parsDen p72) : Option (rsDen r72 × outsDen p72) := (cnd (ilt (isub .i64 x.2.1 (ssz x.1.1)) (0 : Int)) (some (((-1 : Int), ()), ())) (bnd (d97 (x.1.2.2.2.1, ((isub .i64 x.2.1 (ssz x.1.1)), ()))) (fun r1 => (cnd (ilt r1.1.1 (0 : Int)) (some (((-1 : Int), ()), ())) (some ((r1.1.1, ()), ()))))))
theorem b72 (x : parsDen p72) : runFn Try.f72 p72 r72 e72 x = d72 x := by kernel_rfl
theorem s72 : Sound Try.prog (e72) gvs := ⟨fun _ _ => rfl, fun t T h => (ttB_ok tts tts_ok t T h).1, fun t T h => (ttB_ok tts tts_ok t T h).2, callOf_ok _ (by simp only [List.forall_mem_cons]; exact ⟨k97, fun e he => by simp at he⟩), mix_ok⟩
theorem k72 : CallsOk Try.prog gls gvs 72 ⟨p72, r72, false, d72⟩ := CallsOk.close (fun k => fn_sound s72 Try.func72 rfl (by decide) (by kernel_rfl) (by kernel_rfl) (f0 := d72) (al := false) (by kernel_rfl) (cf := fun _ _ => none) (fun _ _ h => by cases h) (fun _ _ _ h => by cases h) k) (fun x r h => ⟨0, (b72 x).trans h⟩)
-- loop.example/g00321/laws.szAccountS
@[reducible] def p42 : List Par := [⟨(.sl (.prod .str (.prod (.int .i64) (.prod (.int .i64) (.prod (.sl (.prod .str (.prod .str .unit))) .unit))))), .sh, false, false, none⟩, ⟨(.int .i64), .sh, false, false, none⟩]
@[reducible] def r42 : List Rt := [⟨(.int .i64), .sh, false⟩]
@[reducible] def l42_5 : List LV := [.val 0 (.sl (.prod .str (.prod (.int .i64) (.prod (.int .i64) (.prod (.sl (.prod .str (.prod .str .unit))) .unit))))) .sh, .val 1 (.int .i64) .sh, .val 5 (.int .i64) .sh]
def e42 (c5 : lvDen l42_5 → Option (rsDen r42 × outsDen p42)) : Env (rsDen r42 × outsDen p42) := { tt := ttOf tts, gl := gls, call := callOf [(72, ⟨p72, r72, false, d72⟩)], joins := [], cut := fun r => bif Nat.beq r 5 then some ⟨l42_5, c5⟩ else none, fz := [] }
theorem s42 (c5 : lvDen l42_5 → Option (rsDen r42 × outsDen p42)) : Sound Try.prog (e42 c5) gvs := ⟨fun _ _ => rfl, fun t T h => (ttB_ok tts tts_ok t T h).1, fun t T h => (ttB_ok tts tts_ok t T h).2, callOf_ok _ (by simp only [List.forall_mem_cons]; exact ⟨k72, fun e he => by simp at he⟩), mix_ok⟩
def h42_5 (c5 : lvDen l42_5 → Option (rsDen r42 × outsDen p42)) (x : lvDen l42_5) : Option (rsDen r42 × outsDen p42) := (cnd (ilt x.2.2.1 (len x.1)) (cnd (inb x.2.2.1 (len x.1)) (bnd (d72 ((rd ((bs []), ((0 : Int), ((0 : Int), ([], ())))) x.1 x.2.2.1), (x.2.1, ()))) (fun r2 => (cnd (ilt r2.1.1 (0 : Int)) (some (((-1 : Int), ()), ())) (c5 (x.1, (r2.1.1, ((iadd .i64 x.2.2.1 (1 : Int)), ()))))))) none) (some ((x.2.1, ()), ())))
theorem g42_5 (c5 : lvDen l42_5 → Option (rsDen r42 × outsDen p42)) (x : lvDen l42_5) : runCut Try.f42 p42 r42 (e42 c5) 5 l42_5 x = h42_5 c5 x := by kernel_rfl
def h42 (c5 : lvDen l42_5 → Option (rsDen r42 × outsDen p42)) (x : parsDen p42) : Option (rsDen r42 × outsDen p42) := (cnd (ilt (isub .i64 x.2.1 (len x.1)) (0 : Int)) (some (((-1 : Int), ()), ())) (c5 (x.1, ((isub .i64 x.2.1 (len x.1)), ((0 : Int), ())))))
theorem g42 (c5 : lvDen l42_5 → Option (rsDen r42 × outsDen p42)) (x : parsDen p42) : runFn Try.f42 p42 r42 (e42 c5) x = h42 c5 x := by kernel_rfl
def L42 : Nat → (lvDen l42_5 → Option (rsDen r42 × outsDen p42))
  | 0 => (fun _ => none)
  | k + 1 => (fun x => h42_5 ((L42 k)) x)
theorem m42 : ∀ k x, Le (L42 k x) (L42 (k + 1) x) := by
  intro k
  induction k with
  | zero => exact fun x r h => (by cases h)
  | succ k i0 =>
    intro x
    · show Le (h42_5 ((L42 k)) x) (h42_5 ((L42 (k + 1))) x)
      unfold h42_5
      repeat' (first | exact i0 _ | refine Le.cnd ?_ ?_ | refine Le.bnd ?_ fun _ => ?_ | exact Le.refl _)
noncomputable def D42_5 : lvDen l42_5 → Option (rsDen r42 × outsDen p42) := lim (fun k x => (L42 k) x)
theorem a42_5 (x : lvDen l42_5) : Lims (fun k => (L42 k) x) (D42_5 x) := lim_lims (fun k x => (m42 k) x) x
theorem q42_5 (x : lvDen l42_5) : D42_5 x = h42_5 D42_5 x := Lims.uniq (a42_5 x).shift (by
  show Lims (fun k => h42_5 ((L42 k)) x) _
  unfold h42_5
  repeat' (first | exact a42_5 _ | refine Lims.cnd ?_ ?_ | refine Lims.bnd ?_ fun _ => ?_ | exact Lims.const _))
noncomputable def d42 (x : parsDen p42) : Option (rsDen r42 × outsDen p42) := h42 D42_5 x
theorem a42 (x : parsDen p42) : Lims (fun k => h42 ((L42 k)) x) (d42 x) := by
  unfold d42 h42
  repeat' (first | exact a42_5 _ | refine Lims.cnd ?_ ?_ | refine Lims.bnd ?_ fun _ => ?_ | exact Lims.const _)
theorem k42 : CallsOk Try.prog gls gvs 42 ⟨p42, r42, false, d42⟩ := CallsOk.lims (Fn := fun k x => h42 ((L42 k)) x) (fun k => by
  have := fn_sound (s42 (fun _ => none)) Try.func42 rfl (by decide) (by kernel_rfl) (by kernel_rfl) (f0 := fun _ => none) (al := false) (by kernel_rfl) (cf := fun k => (e42 ((L42 k))).cut) ?_ ?_ k
  · exact this
  · intro r c h x
    change (bif Nat.beq r 5 then some (⟨l42_5, (L42 0)⟩ : Cut (rsDen r42 × outsDen p42)) else none) = some c at h
    cases h0 : Nat.beq r 5 <;> rw [h0] at h
    case true => cases h; rfl
    simp only [cond_false] at h
    cases h
  · intro k r c h x
    change (bif Nat.beq r 5 then some (⟨l42_5, (L42 (k + 1))⟩ : Cut (rsDen r42 × outsDen p42)) else none) = some c at h
    cases h0 : Nat.beq r 5 <;> rw [h0] at h
    case true => cases h; rw [Nat.eq_of_beq_eq_true h0]; exact (g42_5 ((L42 k)) x).symm
    simp only [cond_false] at h
    cases h) a42
-- loop.example/g00321/laws.szChain
@[reducible] def p14 : List Par := [⟨(.prod (.int .i64) (.prod (.sl (.prod .str (.prod (.int .i64) (.prod (.int .i64) (.prod (.sl (.prod .str (.prod .str .unit))) .unit))))) .unit)), .sh, false, false, none⟩, ⟨(.int .i64), .sh, false, false, none⟩]
@[reducible] def r14 : List Rt := [⟨(.int .i64), .sh, false⟩]
def e14 : Env (rsDen r14 × outsDen p14) := { tt := ttOf tts, gl := gls, call := callOf [(42, ⟨p42, r42, false, d42⟩)], joins := [], cut := fun r => none, fz := [] }
def d14 (x : parsDen p14) : Option (rsDen r14 × outsDen p14) := (bnd (d42 (x.1.2.1, (x.2.1, ()))) (fun r1 => (cnd (ilt r1.1.1 (0 : Int)) (some (((-1 : Int), ()), ())) (some ((r1.1.1, ()), ())))))
theorem b14 (x : parsDen p14) : runFn Try.f14 p14 r14 e14 x = d14 x := by kernel_rfl
theorem s14 : Sound Try.prog (e14) gvs := ⟨fun _ _ => rfl, fun t T h => (ttB_ok tts tts_ok t T h).1, fun t T h => (ttB_ok tts tts_ok t T h).2, callOf_ok _ (by simp only [List.forall_mem_cons]; exact ⟨k42, fun e he => by simp at he⟩), mix_ok⟩
theorem k14 : CallsOk Try.prog gls gvs 14 ⟨p14, r14, false, d14⟩ := CallsOk.close (fun k => fn_sound s14 Try.func14 rfl (by decide) (by kernel_rfl) (by kernel_rfl) (f0 := d14) (al := false) (by kernel_rfl) (cf := fun _ _ => none) (fun _ _ h => by cases h) (fun _ _ _ h => by cases h) k) (fun x r h => ⟨0, (b14 x).trans h⟩)
-- loop.example/g00321/laws.toPair
@[reducible] def p114 : List Par := [⟨(.prod .str (.prod .str .unit)), .sh, false, false, none⟩]
@[reducible] def r114 : List Rt := [⟨(.prod .str (.prod .str .unit)), .sh, false⟩]
def e114 : Env (rsDen r114 × outsDen p114) := { tt := ttOf tts, gl := gls, call := callOf [], joins := [], cut := fun r => none, fz := [] }
def d114 (x : parsDen p114) : Option (rsDen r114 × outsDen p114) := (some (((x.1.1, (x.1.2.1, ())), ()), ()))
theorem b114 (x : parsDen p114) : runFn Try.f114 p114 r114 e114 x = d114 x := by kernel_rfl
theorem s114 : Sound Try.prog (e114) gvs := ⟨fun _ _ => rfl, fun t T h => (ttB_ok tts tts_ok t T h).1, fun t T h => (ttB_ok tts tts_ok t T h).2, callOf_ok _ (fun e he => by simp at he), mix_ok⟩
theorem k114 : CallsOk Try.prog gls gvs 114 ⟨p114, r114, false, d114⟩ := CallsOk.close (fun k => fn_sound s114 Try.func114 rfl (by decide) (by kernel_rfl) (by kernel_rfl) (f0 := d114) (al := false) (by kernel_rfl) (cf := fun _ _ => none) (fun _ _ h => by cases h) (fun _ _ _ h => by cases h) k) (fun x r h => ⟨0, (b114 x).trans h⟩)
-- loop.example/g00321/laws.toPairS
@[reducible] def p98 : List Par := [⟨(.sl (.prod .str (.prod .str .unit))), .sh, false, false, none⟩]
@[reducible] def r98 : List Rt := [⟨(.sl (.prod .str (.prod .str .unit))), (.own 0 .sh), false⟩]
@[reducible] def l98_3 : List LV := [.val 0 (.sl (.prod .str (.prod .str .unit))) .sh, .val 3 (.sl (.prod .str (.prod .str .unit))) (.own 0 .sh), .val 4 (.int .i64) .sh]
def e98 (c3 : lvDen l98_3 → Option (rsDen r98 × outsDen p98)) : Env (rsDen r98 × outsDen p98) := { tt := ttOf tts, gl := gls, call := callOf [(114, ⟨p114, r114, false, d114⟩)], joins := [], cut := fun r => bif Nat.beq r 3 then some ⟨l98_3, c3⟩ else none, fz := [] }
theorem s98 (c3 : lvDen l98_3 → Option (rsDen r98 × outsDen p98)) : Sound Try.prog (e98 c3) gvs := ⟨fun _ _ => rfl, fun t T h => (ttB_ok tts tts_ok t T h).1, fun t T h => (ttB_ok tts tts_ok t T h).2, callOf_ok _ (by simp only [List.forall_mem_cons]; exact ⟨k114, fun e he => by simp at he⟩), mix_ok⟩
def h98_3 (c3 : lvDen l98_3 → Option (rsDen r98 × outsDen p98)) (x : lvDen l98_3) : Option (rsDen r98 × outsDen p98) := (cnd (ilt x.2.2.1 (len x.1)) (cnd (inb x.2.2.1 (len x.1)) (bnd (d114 ((rd ((bs []), ((bs []), ())) x.1 x.2.2.1), ())) (fun r2 => (cnd (inb x.2.2.1 (len x.2.1)) (c3 (x.1, ((upd x.2.1 x.2.2.1 r2.1.1), ((iadd .i64 x.2.2.1 (1 : Int)), ())))) none))) none) (some ((x.2.1, ()), ())))
theorem g98_3 (c3 : lvDen l98_3 → Option (rsDen r98 × outsDen p98)) (x : lvDen l98_3) : runCut Try.f98 p98 r98 (e98 c3) 3 l98_3 x = h98_3 c3 x := by kernel_rfl
def h98 (c3 : lvDen l98_3 → Option (rsDen r98 × outsDen p98)) (x : parsDen p98) : Option (rsDen r98 × outsDen p98) := (cnd (both (inb2 (0 : Int) (len x.1) (len x.1)) (fits (len x.1) 2)) (c3 (x.1, ((rep (len x.1) ((bs []), ((bs []), ()))), ((0 : Int), ())))) none)
theorem g98 (c3 : lvDen l98_3 → Option (rsDen r98 × outsDen p98)) (x : parsDen p98) : runFn Try.f98 p98 r98 (e98 c3) x = h98 c3 x := by kernel_rfl
def L98 : Nat → (lvDen l98_3 → Option (rsDen r98 × outsDen p98))
  | 0 => (fun _ => none)
  | k + 1 => (fun x => h98_3 ((L98 k)) x)
theorem m98 : ∀ k x, Le (L98 k x) (L98 (k + 1) x) := by
  intro k
  induction k with
  | zero => exact fun x r h => (by cases h)
  | succ k i0 =>
    intro x
    · show Le (h98_3 ((L98 k)) x) (h98_3 ((L98 (k + 1))) x)
      unfold h98_3
      repeat' (first | exact i0 _ | refine Le.cnd ?_ ?_ | refine Le.bnd ?_ fun _ => ?_ | exact Le.refl _)
noncomputable def D98_3 : lvDen l98_3 → Option (rsDen r98 × outsDen p98) := lim (fun k x => (L98 k) x)
theorem a98_3 (x : lvDen l98_3) : Lims (fun k => (L98 k) x) (D98_3 x) := lim_lims (fun k x => (m98 k) x) x
theorem q98_3 (x : lvDen l98_3) : D98_3 x = h98_3 D98_3 x := Lims.uniq (a98_3 x).shift (by
  show Lims (fun k => h98_3 ((L98 k)) x) _
  unfold h98_3
  repeat' (first | exact a98_3 _ | refine Lims.cnd ?_ ?_ | refine Lims.bnd ?_ fun _ => ?_ | exact Lims.const _))
noncomputable def d98 (x : parsDen p98) : Option (rsDen r98 × outsDen p98) := h98 D98_3 x
theorem a98 (x : parsDen p98) : Lims (fun k => h98 ((L98 k)) x) (d98 x) := by
  unfold d98 h98
  repeat' (first | exact a98_3 _ | refine Lims.cnd ?_ ?_ | refine Lims.bnd ?_ fun _ => ?_ | exact Lims.const _)
theorem k98 : CallsOk Try.prog gls gvs 98 ⟨p98, r98, false, d98⟩ := CallsOk.lims (Fn := fun k x => h98 ((L98 k)) x) (fun k => by
  have := fn_sound (s98 (fun _ => none)) Try.func98 rfl (by decide) (by kernel_rfl) (by kernel_rfl) (f0 := fun _ => none) (al := false) (by kernel_rfl) (cf := fun k => (e98 ((L98 k))).cut) ?_ ?_ k
  · exact this
  · intro r c h x
    change (bif Nat.beq r 3 then some (⟨l98_3, (L98 0)⟩ : Cut (rsDen r98 × outsDen p98)) else none) = some c at h
    cases h0 : Nat.beq r 3 <;> rw [h0] at h
    case true => cases h; rfl
    simp only [cond_false] at h
    cases h
  · intro k r c h x
    change (bif Nat.beq r 3 then some (⟨l98_3, (L98 (k + 1))⟩ : Cut (rsDen r98 × outsDen p98)) else none) = some c at h
    cases h0 : Nat.beq r 3 <;> rw [h0] at h
    case true => cases h; rw [Nat.eq_of_beq_eq_true h0]; exact (g98_3 ((L98 k)) x).symm
    simp only [cond_false] at h
    cases h) a98
-- loop.example/g00321/laws.toAccount
@[reducible] def p74 : List Par := [⟨(.prod .str (.prod (.int .i64) (.prod (.int .i64) (.prod (.sl (.prod .str (.prod .str .unit))) .unit)))), .sh, false, false, none⟩]
@[reducible] def r74 : List Rt := [⟨(.prod .str (.prod (.int .i64) (.prod (.int .i64) (.prod (.sl (.prod .str (.prod .str .unit))) .unit)))), (.pr .sh (.pr .sh (.pr .sh (.pr (.own 0 .sh) .sh)))), false⟩]
def e74 : Env (rsDen r74 × outsDen p74) := { tt := ttOf tts, gl := gls, call := callOf [(98, ⟨p98, r98, false, d98⟩)], joins := [], cut := fun r => none, fz := [] }
def d74 (x : parsDen p74) : Option (rsDen r74 × outsDen p74) := (bnd (d98 (x.1.2.2.2.1, ())) (fun r1 => (some (((x.1.1, (x.1.2.1, (x.1.2.2.1, (r1.1.1, ())))), ()), ()))))
theorem b74 (x : parsDen p74) : runFn Try.f74 p74 r74 e74 x = d74 x := by kernel_rfl
theorem s74 : Sound Try.prog (e74) gvs := ⟨fun _ _ => rfl, fun t T h => (ttB_ok tts tts_ok t T h).1, fun t T h => (ttB_ok tts tts_ok t T h).2, callOf_ok _ (by simp only [List.forall_mem_cons]; exact ⟨k98, fun e he => by simp at he⟩), mix_ok⟩
theorem k74 : CallsOk Try.prog gls gvs 74 ⟨p74, r74, false, d74⟩ := CallsOk.close (fun k => fn_sound s74 Try.func74 rfl (by decide) (by kernel_rfl) (by kernel_rfl) (f0 := d74) (al := false) (by kernel_rfl) (cf := fun _ _ => none) (fun _ _ h => by cases h) (fun _ _ _ h => by cases h) k) (fun x r h => ⟨0, (b74 x).trans h⟩)
-- loop.example/g00321/laws.toAccountS
@[reducible] def p44 : List Par := [⟨(.sl (.prod .str (.prod (.int .i64) (.prod (.int .i64) (.prod (.sl (.prod .str (.prod .str .unit))) .unit))))), .sh, false, false, none⟩]
@[reducible] def r44 : List Rt := [⟨(.sl (.prod .str (.prod (.int .i64) (.prod (.int .i64) (.prod (.sl (.prod .str (.prod .str .unit))) .unit))))), (.own 0 (.pr .sh (.pr .sh (.pr .sh (.pr (.own 0 .sh) .sh))))), false⟩]
@[reducible] def l44_3 : List LV := [.val 0 (.sl (.prod .str (.prod (.int .i64) (.prod (.int .i64) (.prod (.sl (.prod .str (.prod .str .unit))) .unit))))) .sh, .val 3 (.sl (.prod .str (.prod (.int .i64) (.prod (.int .i64) (.prod (.sl (.prod .str (.prod .str .unit))) .unit))))) (.own 0 (.pr .sh (.pr .sh (.pr .sh (.pr (.own 0 .sh) .sh))))), .val 4 (.int .i64) .sh]
def e44 (c3 : lvDen l44_3 → Option (rsDen r44 × outsDen p44)) : Env (rsDen r44 × outsDen p44) := { tt := ttOf tts, gl := gls, call := callOf [(74, ⟨p74, r74, false, d74⟩)], joins := [], cut := fun r => bif Nat.beq r 3 then some ⟨l44_3, c3⟩ else none, fz := [] }
theorem s44 (c3 : lvDen l44_3 → Option (rsDen r44 × outsDen p44)) : Sound Try.prog (e44 c3) gvs := ⟨fun _ _ => rfl, fun t T h => (ttB_ok tts tts_ok t T h).1, fun t T h => (ttB_ok tts tts_ok t T h).2, callOf_ok _ (by simp only [List.forall_mem_cons]; exact ⟨k74, fun e he => by simp at he⟩), mix_ok⟩
def h44_3 (c3 : lvDen l44_3 → Option (rsDen r44 × outsDen p44)) (x : lvDen l44_3) : Option (rsDen r44 × outsDen p44) := (cnd (ilt x.2.2.1 (len x.1)) (cnd (inb x.2.2.1 (len x.1)) (bnd (d74 ((rd ((bs []), ((0 : Int), ((0 : Int), ([], ())))) x.1 x.2.2.1), ())) (fun r2 => (cnd (inb x.2.2.1 (len x.2.1)) (c3 (x.1, ((upd x.2.1 x.2.2.1 r2.1.1), ((iadd .i64 x.2.2.1 (1 : Int)), ())))) none))) none) (some ((x.2.1, ()), ())))
theorem g44_3 (c3 : lvDen l44_3 → Option (rsDen r44 × outsDen p44)) (x : lvDen l44_3) : runCut Try.f44 p44 r44 (e44 c3) 3 l44_3 x = h44_3 c3 x := by kernel_rfl
def h44 (c3 : lvDen l44_3 → Option (rsDen r44 × outsDen p44)) (x : parsDen p44) : Option (rsDen r44 × outsDen p44) := (cnd (both (inb2 (0 : Int) (len x.1) (len x.1)) (fits (len x.1) 4)) (c3 (x.1, ((rep (len x.1) ((bs []), ((0 : Int), ((0 : Int), ([], ()))))), ((0 : Int), ())))) none)
theorem g44 (c3 : lvDen l44_3 → Option (rsDen r44 × outsDen p44)) (x : parsDen p44) : runFn Try.f44 p44 r44 (e44 c3) x = h44 c3 x := by kernel_rfl
def L44 : Nat → (lvDen l44_3 → Option (rsDen r44 × outsDen p44))
  | 0 => (fun _ => none)
  | k + 1 => (fun x => h44_3 ((L44 k)) x)
theorem m44 : ∀ k x, Le (L44 k x) (L44 (k + 1) x) := by
  intro k
  induction k with
  | zero => exact fun x r h => (by cases h)
  | succ k i0 =>
    intro x
    · show Le (h44_3 ((L44 k)) x) (h44_3 ((L44 (k + 1))) x)
      unfold h44_3
      repeat' (first | exact i0 _ | refine Le.cnd ?_ ?_ | refine Le.bnd ?_ fun _ => ?_ | exact Le.refl _)
noncomputable def D44_3 : lvDen l44_3 → Option (rsDen r44 × outsDen p44) := lim (fun k x => (L44 k) x)
theorem a44_3 (x : lvDen l44_3) : Lims (fun k => (L44 k) x) (D44_3 x) := lim_lims (fun k x => (m44 k) x) x
theorem q44_3 (x : lvDen l44_3) : D44_3 x = h44_3 D44_3 x := Lims.uniq (a44_3 x).shift (by
  show Lims (fun k => h44_3 ((L44 k)) x) _
  unfold h44_3
  repeat' (first | exact a44_3 _ | refine Lims.cnd ?_ ?_ | refine Lims.bnd ?_ fun _ => ?_ | exact Lims.const _))
noncomputable def d44 (x : parsDen p44) : Option (rsDen r44 × outsDen p44) := h44 D44_3 x
theorem a44 (x : parsDen p44) : Lims (fun k => h44 ((L44 k)) x) (d44 x) := by
  unfold d44 h44
  repeat' (first | exact a44_3 _ | refine Lims.cnd ?_ ?_ | refine Lims.bnd ?_ fun _ => ?_ | exact Lims.const _)
theorem k44 : CallsOk Try.prog gls gvs 44 ⟨p44, r44, false, d44⟩ := CallsOk.lims (Fn := fun k x => h44 ((L44 k)) x) (fun k => by
  have := fn_sound (s44 (fun _ => none)) Try.func44 rfl (by decide) (by kernel_rfl) (by kernel_rfl) (f0 := fun _ => none) (al := false) (by kernel_rfl) (cf := fun k => (e44 ((L44 k))).cut) ?_ ?_ k
  · exact this
  · intro r c h x
    change (bif Nat.beq r 3 then some (⟨l44_3, (L44 0)⟩ : Cut (rsDen r44 × outsDen p44)) else none) = some c at h
    cases h0 : Nat.beq r 3 <;> rw [h0] at h
    case true => cases h; rfl
    simp only [cond_false] at h
    cases h
  · intro k r c h x
    change (bif Nat.beq r 3 then some (⟨l44_3, (L44 (k + 1))⟩ : Cut (rsDen r44 × outsDen p44)) else none) = some c at h
    cases h0 : Nat.beq r 3 <;> rw [h0] at h
    case true => cases h; rw [Nat.eq_of_beq_eq_true h0]; exact (g44_3 ((L44 k)) x).symm
    simp only [cond_false] at h
    cases h) a44
-- loop.example/g00321/laws.toChain
@[reducible] def p16 : List Par := [⟨(.prod (.int .i64) (.prod (.sl (.prod .str (.prod (.int .i64) (.prod (.int .i64) (.prod (.sl (.prod .str (.prod .str .unit))) .unit))))) .unit)), .sh, false, false, none⟩]
@[reducible] def r16 : List Rt := [⟨(.prod (.int .i64) (.prod (.sl (.prod .str (.prod (.int .i64) (.prod (.int .i64) (.prod (.sl (.prod .str (.prod .str .unit))) .unit))))) .unit)), (.pr .sh (.pr (.own 0 (.pr .sh (.pr .sh (.pr .sh (.pr (.own 0 .sh) .sh))))) .sh)), false⟩]
def e16 : Env (rsDen r16 × outsDen p16) := { tt := ttOf tts, gl := gls, call := callOf [(44, ⟨p44, r44, false, d44⟩)], joins := [], cut := fun r => none, fz := [] }
def d16 (x : parsDen p16) : Option (rsDen r16 × outsDen p16) := (bnd (d44 (x.1.2.1, ())) (fun r1 => (some (((x.1.1, (r1.1.1, ())), ()), ()))))
theorem b16 (x : parsDen p16) : runFn Try.f16 p16 r16 e16 x = d16 x := by kernel_rfl
theorem s16 : Sound Try.prog (e16) gvs := ⟨fun _ _ => rfl, fun t T h => (ttB_ok tts tts_ok t T h).1, fun t T h => (ttB_ok tts tts_ok t T h).2, callOf_ok _ (by simp only [List.forall_mem_cons]; exact ⟨k44, fun e he => by simp at he⟩), mix_ok⟩
theorem k16 : CallsOk Try.prog gls gvs 16 ⟨p16, r16, false, d16⟩ := CallsOk.close (fun k => fn_sound s16 Try.func16 rfl (by decide) (by kernel_rfl) (by kernel_rfl) (f0 := d16) (al := false) (by kernel_rfl) (cf := fun _ _ => none) (fun _ _ h => by cases h) (fun _ _ _ h => by cases h) k) (fun x r h => ⟨0, (b16 x).trans h⟩)
-- loop.example/g00321/spec.l01In
@[reducible] def p41 : List Par := [⟨(.int .i64), .sh, false, false, none⟩, ⟨(.int .i64), .sh, false, false, none⟩, ⟨(.int .i64), .sh, false, false, none⟩]
@[reducible] def r41 : List Rt := [⟨.bool, .sh, false⟩]
def e41 : Env (rsDen r41 × outsDen p41) := { tt := ttOf tts, gl := gls, call := callOf [], joins := [], cut := fun r => none, fz := [] }
def d41 (x : parsDen p41) : Option (rsDen r41 × outsDen p41) := (cnd (ige x.1 x.2.1) (some (((ile x.1 x.2.2.1), ()), ())) (some ((false, ()), ())))
theorem b41 (x : parsDen p41) : runFn Try.f41 p41 r41 e41 x = d41 x := by kernel_rfl
theorem s41 : Sound Try.prog (e41) gvs := ⟨fun _ _ => rfl, fun t T h => (ttB_ok tts tts_ok t T h).1, fun t T h => (ttB_ok tts tts_ok t T h).2, callOf_ok _ (fun e he => by simp at he), mix_ok⟩
theorem k41 : CallsOk Try.prog gls gvs 41 ⟨p41, r41, false, d41⟩ := CallsOk.close (fun k => fn_sound s41 Try.func41 rfl (by decide) (by kernel_rfl) (by kernel_rfl) (f0 := d41) (al := false) (by kernel_rfl) (cf := fun _ _ => none) (fun _ _ h => by cases h) (fun _ _ _ h => by cases h) k) (fun x r h => ⟨0, (b41 x).trans h⟩)
-- loop.example/g00321/spec.PairsOk
@[reducible] def p73 : List Par := [⟨(.sl (.prod .str (.prod .str .unit))), .sh, false, false, none⟩]
@[reducible] def r73 : List Rt := [⟨.bool, .sh, false⟩]
@[reducible] def l73_2 : List LV := [.val 0 (.sl (.prod .str (.prod .str .unit))) .sh, .val 3 (.int .i64) .sh]
def e73 (c2 : lvDen l73_2 → Option (rsDen r73 × outsDen p73)) : Env (rsDen r73 × outsDen p73) := { tt := ttOf tts, gl := gls, call := callOf [(41, ⟨p41, r41, false, d41⟩)], joins := [], cut := fun r => bif Nat.beq r 2 then some ⟨l73_2, c2⟩ else none, fz := [] }
theorem s73 (c2 : lvDen l73_2 → Option (rsDen r73 × outsDen p73)) : Sound Try.prog (e73 c2) gvs := ⟨fun _ _ => rfl, fun t T h => (ttB_ok tts tts_ok t T h).1, fun t T h => (ttB_ok tts tts_ok t T h).2, callOf_ok _ (by simp only [List.forall_mem_cons]; exact ⟨k41, fun e he => by simp at he⟩), mix_ok⟩
def h73_2 (c2 : lvDen l73_2 → Option (rsDen r73 × outsDen p73)) (x : lvDen l73_2) : Option (rsDen r73 × outsDen p73) := (cnd (ilt x.2.1 (len x.1)) (cnd (inb x.2.1 (len x.1)) (cnd (ine (ssz (rd ((bs []), ((bs []), ())) x.1 x.2.1).1) (4 : Int)) (some ((false, ()), ())) (cnd (inb x.2.1 (len x.1)) (bnd (d41 ((ssz (rd ((bs []), ((bs []), ())) x.1 x.2.1).2.1), ((1 : Int), ((60 : Int), ())))) (fun r2 => (cnd (bnot r2.1.1) (some ((false, ()), ())) (cnd (igt x.2.1 (0 : Int)) (cnd (inb (isub .i64 x.2.1 (1 : Int)) (len x.1)) (cnd (inb x.2.1 (len x.1)) (cnd (sge (rd ((bs []), ((bs []), ())) x.1 (isub .i64 x.2.1 (1 : Int))).1 (rd ((bs []), ((bs []), ())) x.1 x.2.1).1) (some ((false, ()), ())) (c2 (x.1, ((iadd .i64 x.2.1 (1 : Int)), ())))) none) none) (c2 (x.1, ((iadd .i64 x.2.1 (1 : Int)), ()))))))) none)) none) (some (((ile (len x.1) (12 : Int)), ()), ())))
theorem g73_2 (c2 : lvDen l73_2 → Option (rsDen r73 × outsDen p73)) (x : lvDen l73_2) : runCut Try.f73 p73 r73 (e73 c2) 2 l73_2 x = h73_2 c2 x := by kernel_rfl
def h73 (c2 : lvDen l73_2 → Option (rsDen r73 × outsDen p73)) (x : parsDen p73) : Option (rsDen r73 × outsDen p73) := (c2 (x.1, ((0 : Int), ())))
theorem g73 (c2 : lvDen l73_2 → Option (rsDen r73 × outsDen p73)) (x : parsDen p73) : runFn Try.f73 p73 r73 (e73 c2) x = h73 c2 x := by kernel_rfl
def L73 : Nat → (lvDen l73_2 → Option (rsDen r73 × outsDen p73))
  | 0 => (fun _ => none)
  | k + 1 => (fun x => h73_2 ((L73 k)) x)
theorem m73 : ∀ k x, Le (L73 k x) (L73 (k + 1) x) := by
  intro k
  induction k with
  | zero => exact fun x r h => (by cases h)
  | succ k i0 =>
    intro x
    · show Le (h73_2 ((L73 k)) x) (h73_2 ((L73 (k + 1))) x)
      unfold h73_2
      repeat' (first | exact i0 _ | refine Le.cnd ?_ ?_ | refine Le.bnd ?_ fun _ => ?_ | exact Le.refl _)
noncomputable def D73_2 : lvDen l73_2 → Option (rsDen r73 × outsDen p73) := lim (fun k x => (L73 k) x)
theorem a73_2 (x : lvDen l73_2) : Lims (fun k => (L73 k) x) (D73_2 x) := lim_lims (fun k x => (m73 k) x) x
theorem q73_2 (x : lvDen l73_2) : D73_2 x = h73_2 D73_2 x := Lims.uniq (a73_2 x).shift (by
  show Lims (fun k => h73_2 ((L73 k)) x) _
  unfold h73_2
  repeat' (first | exact a73_2 _ | refine Lims.cnd ?_ ?_ | refine Lims.bnd ?_ fun _ => ?_ | exact Lims.const _))
noncomputable def d73 (x : parsDen p73) : Option (rsDen r73 × outsDen p73) := h73 D73_2 x
theorem a73 (x : parsDen p73) : Lims (fun k => h73 ((L73 k)) x) (d73 x) := by
  unfold d73 h73
  repeat' (first | exact a73_2 _ | refine Lims.cnd ?_ ?_ | refine Lims.bnd ?_ fun _ => ?_ | exact Lims.const _)
theorem k73 : CallsOk Try.prog gls gvs 73 ⟨p73, r73, false, d73⟩ := CallsOk.lims (Fn := fun k x => h73 ((L73 k)) x) (fun k => by
  have := fn_sound (s73 (fun _ => none)) Try.func73 rfl (by decide) (by kernel_rfl) (by kernel_rfl) (f0 := fun _ => none) (al := false) (by kernel_rfl) (cf := fun k => (e73 ((L73 k))).cut) ?_ ?_ k
  · exact this
  · intro r c h x
    change (bif Nat.beq r 2 then some (⟨l73_2, (L73 0)⟩ : Cut (rsDen r73 × outsDen p73)) else none) = some c at h
    cases h0 : Nat.beq r 2 <;> rw [h0] at h
    case true => cases h; rfl
    simp only [cond_false] at h
    cases h
  · intro k r c h x
    change (bif Nat.beq r 2 then some (⟨l73_2, (L73 (k + 1))⟩ : Cut (rsDen r73 × outsDen p73)) else none) = some c at h
    cases h0 : Nat.beq r 2 <;> rw [h0] at h
    case true => cases h; rw [Nat.eq_of_beq_eq_true h0]; exact (g73_2 ((L73 k)) x).symm
    simp only [cond_false] at h
    cases h) a73
-- loop.example/g00321/spec.AccountsOk
@[reducible] def p43 : List Par := [⟨(.sl (.prod .str (.prod (.int .i64) (.prod (.int .i64) (.prod (.sl (.prod .str (.prod .str .unit))) .unit))))), .sh, false, false, none⟩]
@[reducible] def r43 : List Rt := [⟨.bool, .sh, false⟩]
@[reducible] def l43_2 : List LV := [.val 0 (.sl (.prod .str (.prod (.int .i64) (.prod (.int .i64) (.prod (.sl (.prod .str (.prod .str .unit))) .unit))))) .sh, .val 3 (.int .i64) .sh]
def e43 (c2 : lvDen l43_2 → Option (rsDen r43 × outsDen p43)) : Env (rsDen r43 × outsDen p43) := { tt := ttOf tts, gl := gls, call := callOf [(41, ⟨p41, r41, false, d41⟩), (73, ⟨p73, r73, false, d73⟩)], joins := [], cut := fun r => bif Nat.beq r 2 then some ⟨l43_2, c2⟩ else none, fz := [] }
theorem s43 (c2 : lvDen l43_2 → Option (rsDen r43 × outsDen p43)) : Sound Try.prog (e43 c2) gvs := ⟨fun _ _ => rfl, fun t T h => (ttB_ok tts tts_ok t T h).1, fun t T h => (ttB_ok tts tts_ok t T h).2, callOf_ok _ (by simp only [List.forall_mem_cons]; exact ⟨k41, k73, fun e he => by simp at he⟩), mix_ok⟩
def h43_2 (c2 : lvDen l43_2 → Option (rsDen r43 × outsDen p43)) (x : lvDen l43_2) : Option (rsDen r43 × outsDen p43) := (cnd (ilt x.2.1 (len x.1)) (cnd (inb x.2.1 (len x.1)) (cnd (ine (ssz (rd ((bs []), ((0 : Int), ((0 : Int), ([], ())))) x.1 x.2.1).1) (4 : Int)) (some ((false, ()), ())) (cnd (igt x.2.1 (0 : Int)) (cnd (inb (isub .i64 x.2.1 (1 : Int)) (len x.1)) (cnd (sge (rd ((bs []), ((0 : Int), ((0 : Int), ([], ())))) x.1 (isub .i64 x.2.1 (1 : Int))).1 (rd ((bs []), ((0 : Int), ((0 : Int), ([], ())))) x.1 x.2.1).1) (some ((false, ()), ())) (bnd (d41 ((rd ((bs []), ((0 : Int), ((0 : Int), ([], ())))) x.1 x.2.1).2.1, ((0 : Int), ((1000 : Int), ())))) (fun r2 => (cnd (bnot r2.1.1) (some ((false, ()), ())) (bnd (d41 ((rd ((bs []), ((0 : Int), ((0 : Int), ([], ())))) x.1 x.2.1).2.2.1, ((0 : Int), ((1000000000 : Int), ())))) (fun r3 => (cnd (bnot r3.1.1) (some ((false, ()), ())) (bnd (d73 ((rd ((bs []), ((0 : Int), ((0 : Int), ([], ())))) x.1 x.2.1).2.2.2.1, ())) (fun r4 => (cnd (bnot r4.1.1) (some ((false, ()), ())) (c2 (x.1, ((iadd .i64 x.2.1 (1 : Int)), ()))))))))))))) none) (bnd (d41 ((rd ((bs []), ((0 : Int), ((0 : Int), ([], ())))) x.1 x.2.1).2.1, ((0 : Int), ((1000 : Int), ())))) (fun r2 => (cnd (bnot r2.1.1) (some ((false, ()), ())) (bnd (d41 ((rd ((bs []), ((0 : Int), ((0 : Int), ([], ())))) x.1 x.2.1).2.2.1, ((0 : Int), ((1000000000 : Int), ())))) (fun r3 => (cnd (bnot r3.1.1) (some ((false, ()), ())) (bnd (d73 ((rd ((bs []), ((0 : Int), ((0 : Int), ([], ())))) x.1 x.2.1).2.2.2.1, ())) (fun r4 => (cnd (bnot r4.1.1) (some ((false, ()), ())) (c2 (x.1, ((iadd .i64 x.2.1 (1 : Int)), ())))))))))))))) none) (some (((ile (len x.1) (12 : Int)), ()), ())))
theorem g43_2 (c2 : lvDen l43_2 → Option (rsDen r43 × outsDen p43)) (x : lvDen l43_2) : runCut Try.f43 p43 r43 (e43 c2) 2 l43_2 x = h43_2 c2 x := by kernel_rfl
def h43 (c2 : lvDen l43_2 → Option (rsDen r43 × outsDen p43)) (x : parsDen p43) : Option (rsDen r43 × outsDen p43) := (c2 (x.1, ((0 : Int), ())))
theorem g43 (c2 : lvDen l43_2 → Option (rsDen r43 × outsDen p43)) (x : parsDen p43) : runFn Try.f43 p43 r43 (e43 c2) x = h43 c2 x := by kernel_rfl
def L43 : Nat → (lvDen l43_2 → Option (rsDen r43 × outsDen p43))
  | 0 => (fun _ => none)
  | k + 1 => (fun x => h43_2 ((L43 k)) x)
theorem m43 : ∀ k x, Le (L43 k x) (L43 (k + 1) x) := by
  intro k
  induction k with
  | zero => exact fun x r h => (by cases h)
  | succ k i0 =>
    intro x
    · show Le (h43_2 ((L43 k)) x) (h43_2 ((L43 (k + 1))) x)
      unfold h43_2
      repeat' (first | exact i0 _ | refine Le.cnd ?_ ?_ | refine Le.bnd ?_ fun _ => ?_ | exact Le.refl _)
noncomputable def D43_2 : lvDen l43_2 → Option (rsDen r43 × outsDen p43) := lim (fun k x => (L43 k) x)
theorem a43_2 (x : lvDen l43_2) : Lims (fun k => (L43 k) x) (D43_2 x) := lim_lims (fun k x => (m43 k) x) x
theorem q43_2 (x : lvDen l43_2) : D43_2 x = h43_2 D43_2 x := Lims.uniq (a43_2 x).shift (by
  show Lims (fun k => h43_2 ((L43 k)) x) _
  unfold h43_2
  repeat' (first | exact a43_2 _ | refine Lims.cnd ?_ ?_ | refine Lims.bnd ?_ fun _ => ?_ | exact Lims.const _))
noncomputable def d43 (x : parsDen p43) : Option (rsDen r43 × outsDen p43) := h43 D43_2 x
theorem a43 (x : parsDen p43) : Lims (fun k => h43 ((L43 k)) x) (d43 x) := by
  unfold d43 h43
  repeat' (first | exact a43_2 _ | refine Lims.cnd ?_ ?_ | refine Lims.bnd ?_ fun _ => ?_ | exact Lims.const _)
theorem k43 : CallsOk Try.prog gls gvs 43 ⟨p43, r43, false, d43⟩ := CallsOk.lims (Fn := fun k x => h43 ((L43 k)) x) (fun k => by
  have := fn_sound (s43 (fun _ => none)) Try.func43 rfl (by decide) (by kernel_rfl) (by kernel_rfl) (f0 := fun _ => none) (al := false) (by kernel_rfl) (cf := fun k => (e43 ((L43 k))).cut) ?_ ?_ k
  · exact this
  · intro r c h x
    change (bif Nat.beq r 2 then some (⟨l43_2, (L43 0)⟩ : Cut (rsDen r43 × outsDen p43)) else none) = some c at h
    cases h0 : Nat.beq r 2 <;> rw [h0] at h
    case true => cases h; rfl
    simp only [cond_false] at h
    cases h
  · intro k r c h x
    change (bif Nat.beq r 2 then some (⟨l43_2, (L43 (k + 1))⟩ : Cut (rsDen r43 × outsDen p43)) else none) = some c at h
    cases h0 : Nat.beq r 2 <;> rw [h0] at h
    case true => cases h; rw [Nat.eq_of_beq_eq_true h0]; exact (g43_2 ((L43 k)) x).symm
    simp only [cond_false] at h
    cases h) a43
-- loop.example/g00321/spec.ChainOk
@[reducible] def p15 : List Par := [⟨(.prod (.int .i64) (.prod (.sl (.prod .str (.prod (.int .i64) (.prod (.int .i64) (.prod (.sl (.prod .str (.prod .str .unit))) .unit))))) .unit)), .sh, false, false, none⟩]
@[reducible] def r15 : List Rt := [⟨.bool, .sh, false⟩]
def e15 : Env (rsDen r15 × outsDen p15) := { tt := ttOf tts, gl := gls, call := callOf [(41, ⟨p41, r41, false, d41⟩), (43, ⟨p43, r43, false, d43⟩)], joins := [], cut := fun r => none, fz := [] }
def d15 (x : parsDen p15) : Option (rsDen r15 × outsDen p15) := (bnd (d41 (x.1.1, ((0 : Int), ((99 : Int), ())))) (fun r1 => (cnd r1.1.1 (bnd (d43 (x.1.2.1, ())) (fun r2 => (some ((r2.1.1, ()), ())))) (some ((false, ()), ())))))
theorem b15 (x : parsDen p15) : runFn Try.f15 p15 r15 e15 x = d15 x := by kernel_rfl
theorem s15 : Sound Try.prog (e15) gvs := ⟨fun _ _ => rfl, fun t T h => (ttB_ok tts tts_ok t T h).1, fun t T h => (ttB_ok tts tts_ok t T h).2, callOf_ok _ (by simp only [List.forall_mem_cons]; exact ⟨k41, k43, fun e he => by simp at he⟩), mix_ok⟩
theorem k15 : CallsOk Try.prog gls gvs 15 ⟨p15, r15, false, d15⟩ := CallsOk.close (fun k => fn_sound s15 Try.func15 rfl (by decide) (by kernel_rfl) (by kernel_rfl) (f0 := d15) (al := false) (by kernel_rfl) (cf := fun _ _ => none) (fun _ _ h => by cases h) (fun _ _ _ h => by cases h) k) (fun x r h => ⟨0, (b15 x).trans h⟩)
-- loop.example/g00321/impl.PairsOk
@[reducible] def p75 : List Par := [⟨(.sl (.prod .str (.prod .str .unit))), .sh, false, false, none⟩]
@[reducible] def r75 : List Rt := [⟨.bool, .sh, false⟩]
@[reducible] def l75_4 : List LV := [.val 0 (.sl (.prod .str (.prod .str .unit))) .sh, .val 8 (.sl (.prod .str (.prod .str .unit))) .sh, .val 9 (.int .i64) .sh, .val 10 (.int .i64) .sh]
def e75 (c4 : lvDen l75_4 → Option (rsDen r75 × outsDen p75)) : Env (rsDen r75 × outsDen p75) := { tt := ttOf tts, gl := gls, call := callOf [], joins := [], cut := fun r => bif Nat.beq r 4 then some ⟨l75_4, c4⟩ else none, fz := [] }
theorem s75 (c4 : lvDen l75_4 → Option (rsDen r75 × outsDen p75)) : Sound Try.prog (e75 c4) gvs := ⟨fun _ _ => rfl, fun t T h => (ttB_ok tts tts_ok t T h).1, fun t T h => (ttB_ok tts tts_ok t T h).2, callOf_ok _ (fun e he => by simp at he), mix_ok⟩
def h75_4 (c4 : lvDen l75_4 → Option (rsDen r75 × outsDen p75)) (x : lvDen l75_4) : Option (rsDen r75 × outsDen p75) := (cnd (ilt x.2.2.2.1 x.2.2.1) (cnd (inb x.2.2.2.1 (len x.2.1)) (cnd (ine (ssz (rd ((bs []), ((bs []), ())) x.2.1 x.2.2.2.1).1) (4 : Int)) (some ((false, ()), ())) (cnd (ilt (ssz (rd ((bs []), ((bs []), ())) x.2.1 x.2.2.2.1).2.1) (1 : Int)) (some ((false, ()), ())) (cnd (igt (ssz (rd ((bs []), ((bs []), ())) x.2.1 x.2.2.2.1).2.1) (60 : Int)) (some ((false, ()), ())) (cnd (igt x.2.2.2.1 (0 : Int)) (cnd (inb (isub .i64 x.2.2.2.1 (1 : Int)) (len x.1)) (cnd (sge (rd ((bs []), ((bs []), ())) x.1 (isub .i64 x.2.2.2.1 (1 : Int))).1 (rd ((bs []), ((bs []), ())) x.2.1 x.2.2.2.1).1) (some ((false, ()), ())) (c4 (x.1, (x.2.1, (x.2.2.1, ((iadd .i64 x.2.2.2.1 (1 : Int)), ())))))) none) (c4 (x.1, (x.2.1, (x.2.2.1, ((iadd .i64 x.2.2.2.1 (1 : Int)), ()))))))))) none) (some ((true, ()), ())))
theorem g75_4 (c4 : lvDen l75_4 → Option (rsDen r75 × outsDen p75)) (x : lvDen l75_4) : runCut Try.f75 p75 r75 (e75 c4) 4 l75_4 x = h75_4 c4 x := by kernel_rfl
def h75 (c4 : lvDen l75_4 → Option (rsDen r75 × outsDen p75)) (x : parsDen p75) : Option (rsDen r75 × outsDen p75) := (cnd (igt (len x.1) (12 : Int)) (some ((false, ()), ())) (c4 (x.1, (x.1, ((len x.1), ((0 : Int), ()))))))
theorem g75 (c4 : lvDen l75_4 → Option (rsDen r75 × outsDen p75)) (x : parsDen p75) : runFn Try.f75 p75 r75 (e75 c4) x = h75 c4 x := by kernel_rfl
def L75 : Nat → (lvDen l75_4 → Option (rsDen r75 × outsDen p75))
  | 0 => (fun _ => none)
  | k + 1 => (fun x => h75_4 ((L75 k)) x)
theorem m75 : ∀ k x, Le (L75 k x) (L75 (k + 1) x) := by
  intro k
  induction k with
  | zero => exact fun x r h => (by cases h)
  | succ k i0 =>
    intro x
    · show Le (h75_4 ((L75 k)) x) (h75_4 ((L75 (k + 1))) x)
      unfold h75_4
      repeat' (first | exact i0 _ | refine Le.cnd ?_ ?_ | refine Le.bnd ?_ fun _ => ?_ | exact Le.refl _)
noncomputable def D75_4 : lvDen l75_4 → Option (rsDen r75 × outsDen p75) := lim (fun k x => (L75 k) x)
theorem a75_4 (x : lvDen l75_4) : Lims (fun k => (L75 k) x) (D75_4 x) := lim_lims (fun k x => (m75 k) x) x
theorem q75_4 (x : lvDen l75_4) : D75_4 x = h75_4 D75_4 x := Lims.uniq (a75_4 x).shift (by
  show Lims (fun k => h75_4 ((L75 k)) x) _
  unfold h75_4
  repeat' (first | exact a75_4 _ | refine Lims.cnd ?_ ?_ | refine Lims.bnd ?_ fun _ => ?_ | exact Lims.const _))
noncomputable def d75 (x : parsDen p75) : Option (rsDen r75 × outsDen p75) := h75 D75_4 x
theorem a75 (x : parsDen p75) : Lims (fun k => h75 ((L75 k)) x) (d75 x) := by
  unfold d75 h75
  repeat' (first | exact a75_4 _ | refine Lims.cnd ?_ ?_ | refine Lims.bnd ?_ fun _ => ?_ | exact Lims.const _)
theorem k75 : CallsOk Try.prog gls gvs 75 ⟨p75, r75, false, d75⟩ := CallsOk.lims (Fn := fun k x => h75 ((L75 k)) x) (fun k => by
  have := fn_sound (s75 (fun _ => none)) Try.func75 rfl (by decide) (by kernel_rfl) (by kernel_rfl) (f0 := fun _ => none) (al := false) (by kernel_rfl) (cf := fun k => (e75 ((L75 k))).cut) ?_ ?_ k
  · exact this
  · intro r c h x
    change (bif Nat.beq r 4 then some (⟨l75_4, (L75 0)⟩ : Cut (rsDen r75 × outsDen p75)) else none) = some c at h
    cases h0 : Nat.beq r 4 <;> rw [h0] at h
    case true => cases h; rfl
    simp only [cond_false] at h
    cases h
  · intro k r c h x
    change (bif Nat.beq r 4 then some (⟨l75_4, (L75 (k + 1))⟩ : Cut (rsDen r75 × outsDen p75)) else none) = some c at h
    cases h0 : Nat.beq r 4 <;> rw [h0] at h
    case true => cases h; rw [Nat.eq_of_beq_eq_true h0]; exact (g75_4 ((L75 k)) x).symm
    simp only [cond_false] at h
    cases h) a75
-- loop.example/g00321/impl.AccountsOk
@[reducible] def p45 : List Par := [⟨(.sl (.prod .str (.prod (.int .i64) (.prod (.int .i64) (.prod (.sl (.prod .str (.prod .str .unit))) .unit))))), .sh, false, false, none⟩]
@[reducible] def r45 : List Rt := [⟨.bool, .sh, false⟩]
@[reducible] def l45_8 : List LV := [.val 0 (.sl (.prod .str (.prod (.int .i64) (.prod (.int .i64) (.prod (.sl (.prod .str (.prod .str .unit))) .unit))))) .sh, .val 8 (.sl (.prod .str (.prod (.int .i64) (.prod (.int .i64) (.prod (.sl (.prod .str (.prod .str .unit))) .unit))))) .sh, .val 9 (.int .i64) .sh, .val 10 (.int .i64) .sh, .val 20 (.int .i64) .sh, .val 21 .bool .sh, .val 22 .bool .sh, .val 32 .bool .sh, .box 4 (.prod .str (.prod (.int .i64) (.prod (.int .i64) (.prod (.sl (.prod .str (.prod .str .unit))) .unit)))) .sh, .ptr 4 4 0]
@[reducible] def l45_4 : List LV := [.val 0 (.sl (.prod .str (.prod (.int .i64) (.prod (.int .i64) (.prod (.sl (.prod .str (.prod .str .unit))) .unit))))) .sh, .val 8 (.sl (.prod .str (.prod (.int .i64) (.prod (.int .i64) (.prod (.sl (.prod .str (.prod .str .unit))) .unit))))) .sh, .val 9 (.int .i64) .sh, .val 10 (.int .i64) .sh]
def e45 (c8 : lvDen l45_8 → Option (rsDen r45 × outsDen p45)) (c4 : lvDen l45_4 → Option (rsDen r45 × outsDen p45)) : Env (rsDen r45 × outsDen p45) := { tt := ttOf tts, gl := gls, call := callOf [(75, ⟨p75, r75, false, d75⟩)], joins := [8], cut := fun r => bif Nat.beq r 8 then some ⟨l45_8, c8⟩ else bif Nat.beq r 4 then some ⟨l45_4, c4⟩ else none, fz := [] }
theorem s45 (c8 : lvDen l45_8 → Option (rsDen r45 × outsDen p45)) (c4 : lvDen l45_4 → Option (rsDen r45 × outsDen p45)) : Sound Try.prog (e45 c8 c4) gvs := ⟨fun _ _ => rfl, fun t T h => (ttB_ok tts tts_ok t T h).1, fun t T h => (ttB_ok tts tts_ok t T h).2, callOf_ok _ (by simp only [List.forall_mem_cons]; exact ⟨k75, fun e he => by simp at he⟩), mix_ok⟩
def h45_8 (c8 : lvDen l45_8 → Option (rsDen r45 × outsDen p45)) (c4 : lvDen l45_4 → Option (rsDen r45 × outsDen p45)) (x : lvDen l45_8) : Option (rsDen r45 × outsDen p45) := (cnd (ilt x.2.2.2.2.2.2.2.2.1.2.1 (0 : Int)) (some ((false, ()), ())) (cnd (igt x.2.2.2.2.2.2.2.2.1.2.1 (1000 : Int)) (some ((false, ()), ())) (cnd (ilt x.2.2.2.2.2.2.2.2.1.2.2.1 (0 : Int)) (some ((false, ()), ())) (cnd (igt x.2.2.2.2.2.2.2.2.1.2.2.1 (1000000000 : Int)) (some ((false, ()), ())) (bnd (d75 (x.2.2.2.2.2.2.2.2.1.2.2.2.1, ())) (fun r3 => (cnd (bnot r3.1.1) (some ((false, ()), ())) (c4 (x.1, (x.2.1, (x.2.2.1, ((iadd .i64 x.2.2.2.1 (1 : Int)), ()))))))))))))
theorem g45_8 (c8 : lvDen l45_8 → Option (rsDen r45 × outsDen p45)) (c4 : lvDen l45_4 → Option (rsDen r45 × outsDen p45)) (x : lvDen l45_8) : runCut Try.f45 p45 r45 (e45 c8 c4) 8 l45_8 x = h45_8 c8 c4 x := by kernel_rfl
def h45_4 (c8 : lvDen l45_8 → Option (rsDen r45 × outsDen p45)) (c4 : lvDen l45_4 → Option (rsDen r45 × outsDen p45)) (x : lvDen l45_4) : Option (rsDen r45 × outsDen p45) := (cnd (ilt x.2.2.2.1 x.2.2.1) (cnd (inb x.2.2.2.1 (len x.2.1)) (cnd (ine (ssz (rd ((bs []), ((0 : Int), ((0 : Int), ([], ())))) x.2.1 x.2.2.2.1).1) (4 : Int)) (some ((false, ()), ())) (cnd (igt x.2.2.2.1 (0 : Int)) (cnd (inb (isub .i64 x.2.2.2.1 (1 : Int)) (len x.1)) (cnd (sge (rd ((bs []), ((0 : Int), ((0 : Int), ([], ())))) x.1 (isub .i64 x.2.2.2.1 (1 : Int))).1 (rd ((bs []), ((0 : Int), ((0 : Int), ([], ())))) x.2.1 x.2.2.2.1).1) (some ((false, ()), ())) (c8 (x.1, (x.2.1, (x.2.2.1, (x.2.2.2.1, (x.2.2.2.1, ((igt x.2.2.2.1 (0 : Int)), (true, ((sge (rd ((bs []), ((0 : Int), ((0 : Int), ([], ())))) x.1 (isub .i64 x.2.2.2.1 (1 : Int))).1 (rd ((bs []), ((0 : Int), ((0 : Int), ([], ())))) x.2.1 x.2.2.2.1).1), ((rd ((bs []), ((0 : Int), ((0 : Int), ([], ())))) x.2.1 x.2.2.2.1), ()))))))))))) none) (c8 (x.1, (x.2.1, (x.2.2.1, (x.2.2.2.1, (x.2.2.2.1, ((igt x.2.2.2.1 (0 : Int)), (false, (false, ((rd ((bs []), ((0 : Int), ((0 : Int), ([], ())))) x.2.1 x.2.2.2.1), ())))))))))))) none) (some ((true, ()), ())))
theorem g45_4 (c8 : lvDen l45_8 → Option (rsDen r45 × outsDen p45)) (c4 : lvDen l45_4 → Option (rsDen r45 × outsDen p45)) (x : lvDen l45_4) : runCut Try.f45 p45 r45 (e45 c8 c4) 4 l45_4 x = h45_4 c8 c4 x := by kernel_rfl
def h45 (c8 : lvDen l45_8 → Option (rsDen r45 × outsDen p45)) (c4 : lvDen l45_4 → Option (rsDen r45 × outsDen p45)) (x : parsDen p45) : Option (rsDen r45 × outsDen p45) := (cnd (igt (len x.1) (12 : Int)) (some ((false, ()), ())) (c4 (x.1, (x.1, ((len x.1), ((0 : Int), ()))))))
theorem g45 (c8 : lvDen l45_8 → Option (rsDen r45 × outsDen p45)) (c4 : lvDen l45_4 → Option (rsDen r45 × outsDen p45)) (x : parsDen p45) : runFn Try.f45 p45 r45 (e45 c8 c4) x = h45 c8 c4 x := by kernel_rfl
def L45 : Nat → (lvDen l45_8 → Option (rsDen r45 × outsDen p45)) × (lvDen l45_4 → Option (rsDen r45 × outsDen p45))
  | 0 => ((fun _ => none), (fun _ => none))
  | k + 1 => ((fun x => h45_8 ((L45 k).1) ((L45 k).2) x), (fun x => h45_4 ((L45 k).1) ((L45 k).2) x))
theorem m45 : ∀ k, (∀ x, Le ((L45 k).1 x) ((L45 (k + 1)).1 x)) ∧ (∀ x, Le ((L45 k).2 x) ((L45 (k + 1)).2 x)) := by
  intro k
  induction k with
  | zero => exact ⟨fun x r h => (by cases h), fun x r h => (by cases h)⟩
  | succ k ih =>
    obtain ⟨i0, i1⟩ := ih
    refine ⟨fun x => ?_, fun x => ?_⟩
    · show Le (h45_8 ((L45 k).1) ((L45 k).2) x) (h45_8 ((L45 (k + 1)).1) ((L45 (k + 1)).2) x)
      unfold h45_8
      repeat' (first | exact i0 _ | exact i1 _ | refine Le.cnd ?_ ?_ | refine Le.bnd ?_ fun _ => ?_ | exact Le.refl _)
    · show Le (h45_4 ((L45 k).1) ((L45 k).2) x) (h45_4 ((L45 (k + 1)).1) ((L45 (k + 1)).2) x)
      unfold h45_4
      repeat' (first | exact i0 _ | exact i1 _ | refine Le.cnd ?_ ?_ | refine Le.bnd ?_ fun _ => ?_ | exact Le.refl _)
noncomputable def D45_8 : lvDen l45_8 → Option (rsDen r45 × outsDen p45) := lim (fun k x => (L45 k).1 x)
theorem a45_8 (x : lvDen l45_8) : Lims (fun k => (L45 k).1 x) (D45_8 x) := lim_lims (fun k x => ((m45 k).1) x) x
noncomputable def D45_4 : lvDen l45_4 → Option (rsDen r45 × outsDen p45) := lim (fun k x => (L45 k).2 x)
theorem a45_4 (x : lvDen l45_4) : Lims (fun k => (L45 k).2 x) (D45_4 x) := lim_lims (fun k x => ((m45 k).2) x) x
theorem q45_8 (x : lvDen l45_8) : D45_8 x = h45_8 D45_8 D45_4 x := Lims.uniq (a45_8 x).shift (by
  show Lims (fun k => h45_8 ((L45 k).1) ((L45 k).2) x) _
  unfold h45_8
  repeat' (first | exact a45_8 _ | exact a45_4 _ | refine Lims.cnd ?_ ?_ | refine Lims.bnd ?_ fun _ => ?_ | exact Lims.const _))
theorem q45_4 (x : lvDen l45_4) : D45_4 x = h45_4 D45_8 D45_4 x := Lims.uniq (a45_4 x).shift (by
  show Lims (fun k => h45_4 ((L45 k).1) ((L45 k).2) x) _
  unfold h45_4
  repeat' (first | exact a45_8 _ | exact a45_4 _ | refine Lims.cnd ?_ ?_ | refine Lims.bnd ?_ fun _ => ?_ | exact Lims.const _))
noncomputable def d45 (x : parsDen p45) : Option (rsDen r45 × outsDen p45) := h45 D45_8 D45_4 x
theorem a45 (x : parsDen p45) : Lims (fun k => h45 ((L45 k).1) ((L45 k).2) x) (d45 x) := by
  unfold d45 h45
  repeat' (first | exact a45_8 _ | exact a45_4 _ | refine Lims.cnd ?_ ?_ | refine Lims.bnd ?_ fun _ => ?_ | exact Lims.const _)
theorem k45 : CallsOk Try.prog gls gvs 45 ⟨p45, r45, false, d45⟩ := CallsOk.lims (Fn := fun k x => h45 ((L45 k).1) ((L45 k).2) x) (fun k => by
  have := fn_sound (s45 (fun _ => none) (fun _ => none)) Try.func45 rfl (by decide) (by kernel_rfl) (by kernel_rfl) (f0 := fun _ => none) (al := false) (by kernel_rfl) (cf := fun k => (e45 ((L45 k).1) ((L45 k).2)).cut) ?_ ?_ k
  · exact this
  · intro r c h x
    change (bif Nat.beq r 8 then some (⟨l45_8, (L45 0).1⟩ : Cut (rsDen r45 × outsDen p45)) else bif Nat.beq r 4 then some (⟨l45_4, (L45 0).2⟩ : Cut (rsDen r45 × outsDen p45)) else none) = some c at h
    cases h0 : Nat.beq r 8 <;> rw [h0] at h
    case true => cases h; rfl
    simp only [cond_false] at h
    cases h1 : Nat.beq r 4 <;> rw [h1] at h
    case true => cases h; rfl
    simp only [cond_false] at h
    cases h
  · intro k r c h x
    change (bif Nat.beq r 8 then some (⟨l45_8, (L45 (k + 1)).1⟩ : Cut (rsDen r45 × outsDen p45)) else bif Nat.beq r 4 then some (⟨l45_4, (L45 (k + 1)).2⟩ : Cut (rsDen r45 × outsDen p45)) else none) = some c at h
    cases h0 : Nat.beq r 8 <;> rw [h0] at h
    case true => cases h; rw [Nat.eq_of_beq_eq_true h0]; exact (g45_8 ((L45 k).1) ((L45 k).2) x).symm
    simp only [cond_false] at h
    cases h1 : Nat.beq r 4 <;> rw [h1] at h
    case true => cases h; rw [Nat.eq_of_beq_eq_true h1]; exact (g45_4 ((L45 k).1) ((L45 k).2) x).symm
    simp only [cond_false] at h
    cases h) a45
-- loop.example/g00321/impl.ChainOk
@[reducible] def p17 : List Par := [⟨(.prod (.int .i64) (.prod (.sl (.prod .str (.prod (.int .i64) (.prod (.int .i64) (.prod (.sl (.prod .str (.prod .str .unit))) .unit))))) .unit)), .sh, false, false, none⟩]
@[reducible] def r17 : List Rt := [⟨.bool, .sh, false⟩]
def e17 : Env (rsDen r17 × outsDen p17) := { tt := ttOf tts, gl := gls, call := callOf [(45, ⟨p45, r45, false, d45⟩)], joins := [], cut := fun r => none, fz := [] }
def d17 (x : parsDen p17) : Option (rsDen r17 × outsDen p17) := (cnd (ige x.1.1 (0 : Int)) (cnd (ile x.1.1 (99 : Int)) (bnd (d45 (x.1.2.1, ())) (fun r1 => (some ((r1.1.1, ()), ())))) (some ((false, ()), ()))) (some ((false, ()), ())))
theorem b17 (x : parsDen p17) : runFn Try.f17 p17 r17 e17 x = d17 x := by kernel_rfl
theorem s17 : Sound Try.prog (e17) gvs := ⟨fun _ _ => rfl, fun t T h => (ttB_ok tts tts_ok t T h).1, fun t T h => (ttB_ok tts tts_ok t T h).2, callOf_ok _ (by simp only [List.forall_mem_cons]; exact ⟨k45, fun e he => by simp at he⟩), mix_ok⟩
theorem k17 : CallsOk Try.prog gls gvs 17 ⟨p17, r17, false, d17⟩ := CallsOk.close (fun k => fn_sound s17 Try.func17 rfl (by decide) (by kernel_rfl) (by kernel_rfl) (f0 := d17) (al := false) (by kernel_rfl) (cf := fun _ _ => none) (fun _ _ h => by cases h) (fun _ _ _ h => by cases h) k) (fun x r h => ⟨0, (b17 x).trans h⟩)
-- loop.example/g00321/laws.eqPair
@[reducible] def p99 : List Par := [⟨(.prod .str (.prod .str .unit)), .sh, false, false, none⟩, ⟨(.prod .str (.prod .str .unit)), .sh, false, false, none⟩]
@[reducible] def r99 : List Rt := [⟨.bool, .sh, false⟩]
def e99 : Env (rsDen r99 × outsDen p99) := { tt := ttOf tts, gl := gls, call := callOf [], joins := [], cut := fun r => none, fz := [] }
def d99 (x : parsDen p99) : Option (rsDen r99 × outsDen p99) := (cnd (sne x.1.1 x.2.1.1) (some ((false, ()), ())) (cnd (sne x.1.2.1 x.2.1.2.1) (some ((false, ()), ())) (some ((true, ()), ()))))
theorem b99 (x : parsDen p99) : runFn Try.f99 p99 r99 e99 x = d99 x := by kernel_rfl
theorem s99 : Sound Try.prog (e99) gvs := ⟨fun _ _ => rfl, fun t T h => (ttB_ok tts tts_ok t T h).1, fun t T h => (ttB_ok tts tts_ok t T h).2, callOf_ok _ (fun e he => by simp at he), mix_ok⟩
theorem k99 : CallsOk Try.prog gls gvs 99 ⟨p99, r99, false, d99⟩ := CallsOk.close (fun k => fn_sound s99 Try.func99 rfl (by decide) (by kernel_rfl) (by kernel_rfl) (f0 := d99) (al := false) (by kernel_rfl) (cf := fun _ _ => none) (fun _ _ h => by cases h) (fun _ _ _ h => by cases h) k) (fun x r h => ⟨0, (b99 x).trans h⟩)
-- loop.example/g00321/laws.eqPairS
@[reducible] def p77 : List Par := [⟨(.sl (.prod .str (.prod .str .unit))), .sh, false, false, none⟩, ⟨(.sl (.prod .str (.prod .str .unit))), .sh, false, false, none⟩]
@[reducible] def r77 : List Rt := [⟨.bool, .sh, false⟩]
@[reducible] def l77_4 : List LV := [.val 0 (.sl (.prod .str (.prod .str .unit))) .sh, .val 1 (.sl (.prod .str (.prod .str .unit))) .sh, .val 5 (.int .i64) .sh]
def e77 (c4 : lvDen l77_4 → Option (rsDen r77 × outsDen p77)) : Env (rsDen r77 × outsDen p77) := { tt := ttOf tts, gl := gls, call := callOf [(99, ⟨p99, r99, false, d99⟩)], joins := [], cut := fun r => bif Nat.beq r 4 then some ⟨l77_4, c4⟩ else none, fz := [] }
theorem s77 (c4 : lvDen l77_4 → Option (rsDen r77 × outsDen p77)) : Sound Try.prog (e77 c4) gvs := ⟨fun _ _ => rfl, fun t T h => (ttB_ok tts tts_ok t T h).1, fun t T h => (ttB_ok tts tts_ok t T h).2, callOf_ok _ (by simp only [List.forall_mem_cons]; exact ⟨k99, fun e he => by simp at he⟩), mix_ok⟩
def h77_4 (c4 : lvDen l77_4 → Option (rsDen r77 × outsDen p77)) (x : lvDen l77_4) : Option (rsDen r77 × outsDen p77) := (cnd (ilt x.2.2.1 (len x.1)) (cnd (inb x.2.2.1 (len x.1)) (cnd (inb x.2.2.1 (len x.2.1)) (bnd (d99 ((rd ((bs []), ((bs []), ())) x.1 x.2.2.1), ((rd ((bs []), ((bs []), ())) x.2.1 x.2.2.1), ()))) (fun r2 => (cnd (bnot r2.1.1) (some ((false, ()), ())) (c4 (x.1, (x.2.1, ((iadd .i64 x.2.2.1 (1 : Int)), ()))))))) none) none) (some ((true, ()), ())))
theorem g77_4 (c4 : lvDen l77_4 → Option (rsDen r77 × outsDen p77)) (x : lvDen l77_4) : runCut Try.f77 p77 r77 (e77 c4) 4 l77_4 x = h77_4 c4 x := by kernel_rfl
def h77 (c4 : lvDen l77_4 → Option (rsDen r77 × outsDen p77)) (x : parsDen p77) : Option (rsDen r77 × outsDen p77) := (cnd (ine (len x.1) (len x.2.1)) (some ((false, ()), ())) (c4 (x.1, (x.2.1, ((0 : Int), ())))))
theorem g77 (c4 : lvDen l77_4 → Option (rsDen r77 × outsDen p77)) (x : parsDen p77) : runFn Try.f77 p77 r77 (e77 c4) x = h77 c4 x := by kernel_rfl
def L77 : Nat → (lvDen l77_4 → Option (rsDen r77 × outsDen p77))
  | 0 => (fun _ => none)
  | k + 1 => (fun x => h77_4 ((L77 k)) x)
theorem m77 : ∀ k x, Le (L77 k x) (L77 (k + 1) x) := by
  intro k
  induction k with
  | zero => exact fun x r h => (by cases h)
  | succ k i0 =>
    intro x
    · show Le (h77_4 ((L77 k)) x) (h77_4 ((L77 (k + 1))) x)
      unfold h77_4
      repeat' (first | exact i0 _ | refine Le.cnd ?_ ?_ | refine Le.bnd ?_ fun _ => ?_ | exact Le.refl _)
noncomputable def D77_4 : lvDen l77_4 → Option (rsDen r77 × outsDen p77) := lim (fun k x => (L77 k) x)
theorem a77_4 (x : lvDen l77_4) : Lims (fun k => (L77 k) x) (D77_4 x) := lim_lims (fun k x => (m77 k) x) x
theorem q77_4 (x : lvDen l77_4) : D77_4 x = h77_4 D77_4 x := Lims.uniq (a77_4 x).shift (by
  show Lims (fun k => h77_4 ((L77 k)) x) _
  unfold h77_4
  repeat' (first | exact a77_4 _ | refine Lims.cnd ?_ ?_ | refine Lims.bnd ?_ fun _ => ?_ | exact Lims.const _))
noncomputable def d77 (x : parsDen p77) : Option (rsDen r77 × outsDen p77) := h77 D77_4 x
theorem a77 (x : parsDen p77) : Lims (fun k => h77 ((L77 k)) x) (d77 x) := by
  unfold d77 h77
  repeat' (first | exact a77_4 _ | refine Lims.cnd ?_ ?_ | refine Lims.bnd ?_ fun _ => ?_ | exact Lims.const _)
theorem k77 : CallsOk Try.prog gls gvs 77 ⟨p77, r77, false, d77⟩ := CallsOk.lims (Fn := fun k x => h77 ((L77 k)) x) (fun k => by
  have := fn_sound (s77 (fun _ => none)) Try.func77 rfl (by decide) (by kernel_rfl) (by kernel_rfl) (f0 := fun _ => none) (al := false) (by kernel_rfl) (cf := fun k => (e77 ((L77 k))).cut) ?_ ?_ k
  · exact this
  · intro r c h x
    change (bif Nat.beq r 4 then some (⟨l77_4, (L77 0)⟩ : Cut (rsDen r77 × outsDen p77)) else none) = some c at h
    cases h0 : Nat.beq r 4 <;> rw [h0] at h
    case true => cases h; rfl
    simp only [cond_false] at h
    cases h
  · intro k r c h x
    change (bif Nat.beq r 4 then some (⟨l77_4, (L77 (k + 1))⟩ : Cut (rsDen r77 × outsDen p77)) else none) = some c at h
    cases h0 : Nat.beq r 4 <;> rw [h0] at h
    case true => cases h; rw [Nat.eq_of_beq_eq_true h0]; exact (g77_4 ((L77 k)) x).symm
    simp only [cond_false] at h
    cases h) a77
-- loop.example/g00321/laws.eqAccount
@[reducible] def p47 : List Par := [⟨(.prod .str (.prod (.int .i64) (.prod (.int .i64) (.prod (.sl (.prod .str (.prod .str .unit))) .unit)))), .sh, false, false, none⟩, ⟨(.prod .str (.prod (.int .i64) (.prod (.int .i64) (.prod (.sl (.prod .str (.prod .str .unit))) .unit)))), .sh, false, false, none⟩]
@[reducible] def r47 : List Rt := [⟨.bool, .sh, false⟩]
def e47 : Env (rsDen r47 × outsDen p47) := { tt := ttOf tts, gl := gls, call := callOf [(77, ⟨p77, r77, false, d77⟩)], joins := [], cut := fun r => none, fz := [] }
def d47 (x : parsDen p47) : Option (rsDen r47 × outsDen p47) := (cnd (sne x.1.1 x.2.1.1) (some ((false, ()), ())) (cnd (ine x.1.2.1 x.2.1.2.1) (some ((false, ()), ())) (cnd (ine x.1.2.2.1 x.2.1.2.2.1) (some ((false, ()), ())) (bnd (d77 (x.1.2.2.2.1, (x.2.1.2.2.2.1, ()))) (fun r1 => (cnd (bnot r1.1.1) (some ((false, ()), ())) (some ((true, ()), ()))))))))
theorem b47 (x : parsDen p47) : runFn Try.f47 p47 r47 e47 x = d47 x := by kernel_rfl
theorem s47 : Sound Try.prog (e47) gvs := ⟨fun _ _ => rfl, fun t T h => (ttB_ok tts tts_ok t T h).1, fun t T h => (ttB_ok tts tts_ok t T h).2, callOf_ok _ (by simp only [List.forall_mem_cons]; exact ⟨k77, fun e he => by simp at he⟩), mix_ok⟩
theorem k47 : CallsOk Try.prog gls gvs 47 ⟨p47, r47, false, d47⟩ := CallsOk.close (fun k => fn_sound s47 Try.func47 rfl (by decide) (by kernel_rfl) (by kernel_rfl) (f0 := d47) (al := false) (by kernel_rfl) (cf := fun _ _ => none) (fun _ _ h => by cases h) (fun _ _ _ h => by cases h) k) (fun x r h => ⟨0, (b47 x).trans h⟩)
-- loop.example/g00321/laws.eqAccountS
@[reducible] def p21 : List Par := [⟨(.sl (.prod .str (.prod (.int .i64) (.prod (.int .i64) (.prod (.sl (.prod .str (.prod .str .unit))) .unit))))), .sh, false, false, none⟩, ⟨(.sl (.prod .str (.prod (.int .i64) (.prod (.int .i64) (.prod (.sl (.prod .str (.prod .str .unit))) .unit))))), .sh, false, false, none⟩]
@[reducible] def r21 : List Rt := [⟨.bool, .sh, false⟩]
@[reducible] def l21_4 : List LV := [.val 0 (.sl (.prod .str (.prod (.int .i64) (.prod (.int .i64) (.prod (.sl (.prod .str (.prod .str .unit))) .unit))))) .sh, .val 1 (.sl (.prod .str (.prod (.int .i64) (.prod (.int .i64) (.prod (.sl (.prod .str (.prod .str .unit))) .unit))))) .sh, .val 5 (.int .i64) .sh]
def e21 (c4 : lvDen l21_4 → Option (rsDen r21 × outsDen p21)) : Env (rsDen r21 × outsDen p21) := { tt := ttOf tts, gl := gls, call := callOf [(47, ⟨p47, r47, false, d47⟩)], joins := [], cut := fun r => bif Nat.beq r 4 then some ⟨l21_4, c4⟩ else none, fz := [] }
theorem s21 (c4 : lvDen l21_4 → Option (rsDen r21 × outsDen p21)) : Sound Try.prog (e21 c4) gvs := ⟨fun _ _ => rfl, fun t T h => (ttB_ok tts tts_ok t T h).1, fun t T h => (ttB_ok tts tts_ok t T h).2, callOf_ok _ (by simp only [List.forall_mem_cons]; exact ⟨k47, fun e he => by simp at he⟩), mix_ok⟩
def h21_4 (c4 : lvDen l21_4 → Option (rsDen r21 × outsDen p21)) (x : lvDen l21_4) : Option (rsDen r21 × outsDen p21) := (cnd (ilt x.2.2.1 (len x.1)) (cnd (inb x.2.2.1 (len x.1)) (cnd (inb x.2.2.1 (len x.2.1)) (bnd (d47 ((rd ((bs []), ((0 : Int), ((0 : Int), ([], ())))) x.1 x.2.2.1), ((rd ((bs []), ((0 : Int), ((0 : Int), ([], ())))) x.2.1 x.2.2.1), ()))) (fun r2 => (cnd (bnot r2.1.1) (some ((false, ()), ())) (c4 (x.1, (x.2.1, ((iadd .i64 x.2.2.1 (1 : Int)), ()))))))) none) none) (some ((true, ()), ())))
theorem g21_4 (c4 : lvDen l21_4 → Option (rsDen r21 × outsDen p21)) (x : lvDen l21_4) : runCut Try.f21 p21 r21 (e21 c4) 4 l21_4 x = h21_4 c4 x := by kernel_rfl
def h21 (c4 : lvDen l21_4 → Option (rsDen r21 × outsDen p21)) (x : parsDen p21) : Option (rsDen r21 × outsDen p21) := (cnd (ine (len x.1) (len x.2.1)) (some ((false, ()), ())) (c4 (x.1, (x.2.1, ((0 : Int), ())))))
theorem g21 (c4 : lvDen l21_4 → Option (rsDen r21 × outsDen p21)) (x : parsDen p21) : runFn Try.f21 p21 r21 (e21 c4) x = h21 c4 x := by kernel_rfl
def L21 : Nat → (lvDen l21_4 → Option (rsDen r21 × outsDen p21))
  | 0 => (fun _ => none)
  | k + 1 => (fun x => h21_4 ((L21 k)) x)
theorem m21 : ∀ k x, Le (L21 k x) (L21 (k + 1) x) := by
  intro k
  induction k with
  | zero => exact fun x r h => (by cases h)
  | succ k i0 =>
    intro x
    · show Le (h21_4 ((L21 k)) x) (h21_4 ((L21 (k + 1))) x)
      unfold h21_4
      repeat' (first | exact i0 _ | refine Le.cnd ?_ ?_ | refine Le.bnd ?_ fun _ => ?_ | exact Le.refl _)
noncomputable def D21_4 : lvDen l21_4 → Option (rsDen r21 × outsDen p21) := lim (fun k x => (L21 k) x)
theorem a21_4 (x : lvDen l21_4) : Lims (fun k => (L21 k) x) (D21_4 x) := lim_lims (fun k x => (m21 k) x) x
theorem q21_4 (x : lvDen l21_4) : D21_4 x = h21_4 D21_4 x := Lims.uniq (a21_4 x).shift (by
  show Lims (fun k => h21_4 ((L21 k)) x) _
  unfold h21_4
  repeat' (first | exact a21_4 _ | refine Lims.cnd ?_ ?_ | refine Lims.bnd ?_ fun _ => ?_ | exact Lims.const _))
noncomputable def d21 (x : parsDen p21) : Option (rsDen r21 × outsDen p21) := h21 D21_4 x
theorem a21 (x : parsDen p21) : Lims (fun k => h21 ((L21 k)) x) (d21 x) := by
  unfold d21 h21
  repeat' (first | exact a21_4 _ | refine Lims.cnd ?_ ?_ | refine Lims.bnd ?_ fun _ => ?_ | exact Lims.const _)
theorem k21 : CallsOk Try.prog gls gvs 21 ⟨p21, r21, false, d21⟩ := CallsOk.lims (Fn := fun k x => h21 ((L21 k)) x) (fun k => by
  have := fn_sound (s21 (fun _ => none)) Try.func21 rfl (by decide) (by kernel_rfl) (by kernel_rfl) (f0 := fun _ => none) (al := false) (by kernel_rfl) (cf := fun k => (e21 ((L21 k))).cut) ?_ ?_ k
  · exact this
  · intro r c h x
    change (bif Nat.beq r 4 then some (⟨l21_4, (L21 0)⟩ : Cut (rsDen r21 × outsDen p21)) else none) = some c at h
    cases h0 : Nat.beq r 4 <;> rw [h0] at h
    case true => cases h; rfl
    simp only [cond_false] at h
    cases h
  · intro k r c h x
    change (bif Nat.beq r 4 then some (⟨l21_4, (L21 (k + 1))⟩ : Cut (rsDen r21 × outsDen p21)) else none) = some c at h
    cases h0 : Nat.beq r 4 <;> rw [h0] at h
    case true => cases h; rw [Nat.eq_of_beq_eq_true h0]; exact (g21_4 ((L21 k)) x).symm
    simp only [cond_false] at h
    cases h) a21
-- loop.example/g00321/laws.eqChain
@[reducible] def p18 : List Par := [⟨(.prod (.int .i64) (.prod (.sl (.prod .str (.prod (.int .i64) (.prod (.int .i64) (.prod (.sl (.prod .str (.prod .str .unit))) .unit))))) .unit)), .sh, false, false, none⟩, ⟨(.prod (.int .i64) (.prod (.sl (.prod .str (.prod (.int .i64) (.prod (.int .i64) (.prod (.sl (.prod .str (.prod .str .unit))) .unit))))) .unit)), .sh, false, false, none⟩]
@[reducible] def r18 : List Rt := [⟨.bool, .sh, false⟩]
def e18 : Env (rsDen r18 × outsDen p18) := { tt := ttOf tts, gl := gls, call := callOf [(21, ⟨p21, r21, false, d21⟩)], joins := [], cut := fun r => none, fz := [] }
def d18 (x : parsDen p18) : Option (rsDen r18 × outsDen p18) := (cnd (ine x.1.1 x.2.1.1) (some ((false, ()), ())) (bnd (d21 (x.1.2.1, (x.2.1.2.1, ()))) (fun r1 => (cnd (bnot r1.1.1) (some ((false, ()), ())) (some ((true, ()), ()))))))
theorem b18 (x : parsDen p18) : runFn Try.f18 p18 r18 e18 x = d18 x := by kernel_rfl
theorem s18 : Sound Try.prog (e18) gvs := ⟨fun _ _ => rfl, fun t T h => (ttB_ok tts tts_ok t T h).1, fun t T h => (ttB_ok tts tts_ok t T h).2, callOf_ok _ (by simp only [List.forall_mem_cons]; exact ⟨k21, fun e he => by simp at he⟩), mix_ok⟩
theorem k18 : CallsOk Try.prog gls gvs 18 ⟨p18, r18, false, d18⟩ := CallsOk.close (fun k => fn_sound s18 Try.func18 rfl (by decide) (by kernel_rfl) (by kernel_rfl) (f0 := d18) (al := false) (by kernel_rfl) (cf := fun _ _ => none) (fun _ _ h => by cases h) (fun _ _ _ h => by cases h) k) (fun x r h => ⟨0, (b18 x).trans h⟩)
-- loop.example/g00321/laws.FnExactChainOk
@[reducible] def p4 : List Par := [⟨(.prod (.int .i64) (.prod (.sl (.prod .str (.prod (.int .i64) (.prod (.int .i64) (.prod (.sl (.prod .str (.prod .str .unit))) .unit))))) .unit)), .sh, false, false, none⟩]
@[reducible] def r4 : List Rt := [⟨.bool, .sh, false⟩]
def e4 : Env (rsDen r4 × outsDen p4) := { tt := ttOf tts, gl := gls, call := callOf [(14, ⟨p14, r14, false, d14⟩), (16, ⟨p16, r16, false, d16⟩), (15, ⟨p15, r15, false, d15⟩), (17, ⟨p17, r17, false, d17⟩), (18, ⟨p18, r18, false, d18⟩)], joins := [], cut := fun r => none, fz := [] }
def d4 (x : parsDen p4) : Option (rsDen r4 × outsDen p4) := (bnd (d14 (x.1, ((1048576 : Int), ()))) (fun r1 => (cnd (ilt r1.1.1 (0 : Int)) (some ((true, ()), ())) (bnd (d16 (x.1, ())) (fun r2 => (bnd (d15 (r2.1.1, ())) (fun r3 => (bnd (d16 (x.1, ())) (fun r4 => (bnd (d17 (r4.1.1, ())) (fun r5 => (cnd (bneB r5.1.1 r3.1.1) (some ((false, ()), ())) (bnd (d16 (x.1, ())) (fun r6 => (bnd (d18 (r4.1.1, (r6.1.1, ()))) (fun r7 => (cnd (bnot r7.1.1) (some ((false, ()), ())) (some ((true, ()), ())))))))))))))))))))
theorem b4 (x : parsDen p4) : runFn Try.f4 p4 r4 e4 x = d4 x := by kernel_rfl
theorem s4 : Sound Try.prog (e4) gvs := ⟨fun _ _ => rfl, fun t T h => (ttB_ok tts tts_ok t T h).1, fun t T h => (ttB_ok tts tts_ok t T h).2, callOf_ok _ (by simp only [List.forall_mem_cons]; exact ⟨k14, k16, k15, k17, k18, fun e he => by simp at he⟩), mix_ok⟩
theorem k4 : CallsOk Try.prog gls gvs 4 ⟨p4, r4, false, d4⟩ := CallsOk.close (fun k => fn_sound s4 Try.func4 rfl (by decide) (by kernel_rfl) (by kernel_rfl) (f0 := d4) (al := false) (by kernel_rfl) (cf := fun _ _ => none) (fun _ _ h => by cases h) (fun _ _ _ h => by cases h) k) (fun x r h => ⟨0, (b4 x).trans h⟩)
end
end Go.Proofs.Ytegdhiadikjdbaa
