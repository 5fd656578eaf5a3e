/- Signatures and bodies of the functions that FnExactEventOk reaches: printed by program. Of no condition. -/
import Derived.Test.YtegdhiadikjdbaaTc
import Derived.Test.YtegdhiadikjdbaaRows
set_option linter.unusedVariables false
set_option maxRecDepth 100000
namespace Go.Proofs.Ytegdhiadikjdbaa
open Go.TV
def tts : List (Nat × Ty) := [(3, (.int .i64)), (4, .bool), (9, .str), (23, (.prod (.int .i64) (.prod (.int .i64) (.prod (.int .i64) (.prod .str .unit))))), (26, (.prod (.int .i64) (.prod (.int .i64) (.prod (.int .i64) (.prod .str .unit)))))]
theorem tts_ok : ttB Try.prog tts = true := by kernel_rfl
def gls : Nat → Option VV := fun _ => none
def gvs (i : Nat) : Value := .pointer (some ⟨i, 0, none⟩)
-- loop.example/g00321/laws.szEvent
@[reducible] def p10 : List Par := [⟨(.prod (.int .i64) (.prod (.int .i64) (.prod (.int .i64) (.prod .str .unit)))), .sh, false, false, none⟩, ⟨(.int .i64), .sh, false, false, none⟩]
@[reducible] def r10 : List Rt := [⟨(.int .i64), .sh, false⟩]
def e10 : Env (rsDen r10 × outsDen p10) := { tt := ttOf tts, gl := gls, call := callOf [], joins := [], cut := fun r => none, fz := [] }
def d10 (x : parsDen p10) : Option (rsDen r10 × outsDen p10) := (cnd (ilt (isub .i64 x.2.1 (ssz x.1.2.2.2.1)) (0 : Int)) (some (((-1 : Int), ()), ())) (some (((isub .i64 x.2.1 (ssz x.1.2.2.2.1)), ()), ())))
theorem b10 (x : parsDen p10) : runFn Try.f10 p10 r10 e10 x = d10 x := by kernel_rfl
theorem s10 : Sound Try.prog (e10) gvs := ⟨fun _ _ => rfl, fun t T h => (ttB_ok tts tts_ok t T h).1, fun t T h => (ttB_ok tts tts_ok t T h).2, callOf_ok _ (fun e he => by simp at he)⟩
theorem k10 : CallsOk Try.prog gls gvs 10 ⟨p10, r10, false, d10⟩ := CallsOk.close (fun k => fn_sound s10 Try.func10 rfl (by decide) (by kernel_rfl) (by kernel_rfl) (f0 := d10) (al := false) (by kernel_rfl) (cf := fun _ _ => none) (fun _ _ h => by cases h) (fun _ _ _ h => by cases h) k) (fun x r h => ⟨0, (b10 x).trans h⟩)
-- loop.example/g00321/laws.toEvent
@[reducible] def p12 : List Par := [⟨(.prod (.int .i64) (.prod (.int .i64) (.prod (.int .i64) (.prod .str .unit)))), .sh, false, false, none⟩]
@[reducible] def r12 : List Rt := [⟨(.prod (.int .i64) (.prod (.int .i64) (.prod (.int .i64) (.prod .str .unit)))), .sh, false⟩]
def e12 : Env (rsDen r12 × outsDen p12) := { tt := ttOf tts, gl := gls, call := callOf [], joins := [], cut := fun r => none, fz := [] }
def d12 (x : parsDen p12) : Option (rsDen r12 × outsDen p12) := (some (((x.1.1, (x.1.2.1, (x.1.2.2.1, (x.1.2.2.2.1, ())))), ()), ()))
theorem b12 (x : parsDen p12) : runFn Try.f12 p12 r12 e12 x = d12 x := by kernel_rfl
theorem s12 : Sound Try.prog (e12) gvs := ⟨fun _ _ => rfl, fun t T h => (ttB_ok tts tts_ok t T h).1, fun t T h => (ttB_ok tts tts_ok t T h).2, callOf_ok _ (fun e he => by simp at he)⟩
theorem k12 : CallsOk Try.prog gls gvs 12 ⟨p12, r12, false, d12⟩ := CallsOk.close (fun k => fn_sound s12 Try.func12 rfl (by decide) (by kernel_rfl) (by kernel_rfl) (f0 := d12) (al := false) (by kernel_rfl) (cf := fun _ _ => none) (fun _ _ h => by cases h) (fun _ _ _ h => by cases h) k) (fun x r h => ⟨0, (b12 x).trans h⟩)
-- loop.example/g00321/spec.l01In
@[reducible] def p41 : List Par := [⟨(.int .i64), .sh, false, false, none⟩, ⟨(.int .i64), .sh, false, false, none⟩, ⟨(.int .i64), .sh, false, false, none⟩]
@[reducible] def r41 : List Rt := [⟨.bool, .sh, false⟩]
def e41 : Env (rsDen r41 × outsDen p41) := { tt := ttOf tts, gl := gls, call := callOf [], joins := [], cut := fun r => none, fz := [] }
def d41 (x : parsDen p41) : Option (rsDen r41 × outsDen p41) := (cnd (ige x.1 x.2.1) (some (((ile x.1 x.2.2.1), ()), ())) (some ((false, ()), ())))
theorem b41 (x : parsDen p41) : runFn Try.f41 p41 r41 e41 x = d41 x := by kernel_rfl
theorem s41 : Sound Try.prog (e41) gvs := ⟨fun _ _ => rfl, fun t T h => (ttB_ok tts tts_ok t T h).1, fun t T h => (ttB_ok tts tts_ok t T h).2, callOf_ok _ (fun e he => by simp at he)⟩
theorem k41 : CallsOk Try.prog gls gvs 41 ⟨p41, r41, false, d41⟩ := CallsOk.close (fun k => fn_sound s41 Try.func41 rfl (by decide) (by kernel_rfl) (by kernel_rfl) (f0 := d41) (al := false) (by kernel_rfl) (cf := fun _ _ => none) (fun _ _ h => by cases h) (fun _ _ _ h => by cases h) k) (fun x r h => ⟨0, (b41 x).trans h⟩)
-- loop.example/g00321/spec.EventOk
@[reducible] def p11 : List Par := [⟨(.prod (.int .i64) (.prod (.int .i64) (.prod (.int .i64) (.prod .str .unit)))), .sh, false, false, none⟩]
@[reducible] def r11 : List Rt := [⟨.bool, .sh, false⟩]
def e11 : Env (rsDen r11 × outsDen p11) := { tt := ttOf tts, gl := gls, call := callOf [(41, ⟨p41, r41, false, d41⟩)], joins := [], cut := fun r => none, fz := [] }
def d11 (x : parsDen p11) : Option (rsDen r11 × outsDen p11) := (bnd (d41 (x.1.1, ((1 : Int), ((7 : Int), ())))) (fun r1 => (cnd (bnot r1.1.1) (some ((false, ()), ())) (cnd (ilt x.1.2.1 (0 : Int)) (some ((false, ()), ())) (cnd (ilt x.1.2.2.1 (0 : Int)) (some ((false, ()), ())) (cnd (ieq x.1.1 (2 : Int)) (some (((ile (ssz x.1.2.2.2.1) (60 : Int)), ()), ())) (cnd (ieq x.1.1 (7 : Int)) (some (((ieq (ssz x.1.2.2.2.1) (4 : Int)), ()), ())) (some (((seq x.1.2.2.2.1 (bs [])), ()), ())))))))))
theorem b11 (x : parsDen p11) : runFn Try.f11 p11 r11 e11 x = d11 x := by kernel_rfl
theorem s11 : Sound Try.prog (e11) gvs := ⟨fun _ _ => rfl, fun t T h => (ttB_ok tts tts_ok t T h).1, fun t T h => (ttB_ok tts tts_ok t T h).2, callOf_ok _ (by simp only [List.forall_mem_cons]; exact ⟨k41, fun e he => by simp at he⟩)⟩
theorem k11 : CallsOk Try.prog gls gvs 11 ⟨p11, r11, false, d11⟩ := CallsOk.close (fun k => fn_sound s11 Try.func11 rfl (by decide) (by kernel_rfl) (by kernel_rfl) (f0 := d11) (al := false) (by kernel_rfl) (cf := fun _ _ => none) (fun _ _ h => by cases h) (fun _ _ _ h => by cases h) k) (fun x r h => ⟨0, (b11 x).trans h⟩)
-- loop.example/g00321/impl.EventOk
@[reducible] def p13 : List Par := [⟨(.prod (.int .i64) (.prod (.int .i64) (.prod (.int .i64) (.prod .str .unit)))), .sh, false, false, none⟩]
@[reducible] def r13 : List Rt := [⟨.bool, .sh, false⟩]
def e13 : Env (rsDen r13 × outsDen p13) := { tt := ttOf tts, gl := gls, call := callOf [], joins := [], cut := fun r => none, fz := [] }
def d13 (x : parsDen p13) : Option (rsDen r13 × outsDen p13) := (cnd (ilt x.1.1 (1 : Int)) (some ((false, ()), ())) (cnd (igt x.1.1 (7 : Int)) (some ((false, ()), ())) (cnd (ilt x.1.2.1 (0 : Int)) (some ((false, ()), ())) (cnd (ilt x.1.2.2.1 (0 : Int)) (some ((false, ()), ())) (cnd (ieq x.1.1 (2 : Int)) (some (((ile (ssz x.1.2.2.2.1) (60 : Int)), ()), ())) (cnd (ieq x.1.1 (7 : Int)) (some (((ieq (ssz x.1.2.2.2.1) (4 : Int)), ()), ())) (some (((seq x.1.2.2.2.1 (bs [])), ()), ()))))))))
theorem b13 (x : parsDen p13) : runFn Try.f13 p13 r13 e13 x = d13 x := by kernel_rfl
theorem s13 : Sound Try.prog (e13) gvs := ⟨fun _ _ => rfl, fun t T h => (ttB_ok tts tts_ok t T h).1, fun t T h => (ttB_ok tts tts_ok t T h).2, callOf_ok _ (fun e he => by simp at he)⟩
theorem k13 : CallsOk Try.prog gls gvs 13 ⟨p13, r13, false, d13⟩ := CallsOk.close (fun k => fn_sound s13 Try.func13 rfl (by decide) (by kernel_rfl) (by kernel_rfl) (f0 := d13) (al := false) (by kernel_rfl) (cf := fun _ _ => none) (fun _ _ h => by cases h) (fun _ _ _ h => by cases h) k) (fun x r h => ⟨0, (b13 x).trans h⟩)
-- loop.example/g00321/laws.FnExactEventOk
@[reducible] def p3 : List Par := [⟨(.prod (.int .i64) (.prod (.int .i64) (.prod (.int .i64) (.prod .str .unit)))), .sh, false, false, none⟩]
@[reducible] def r3 : List Rt := [⟨.bool, .sh, false⟩]
def e3 : Env (rsDen r3 × outsDen p3) := { tt := ttOf tts, gl := gls, call := callOf [(10, ⟨p10, r10, false, d10⟩), (12, ⟨p12, r12, false, d12⟩), (11, ⟨p11, r11, false, d11⟩), (13, ⟨p13, r13, false, d13⟩)], joins := [], cut := fun r => none, fz := [] }
def d3 (x : parsDen p3) : Option (rsDen r3 × outsDen p3) := (bnd (d10 (x.1, ((1048576 : Int), ()))) (fun r1 => (cnd (ilt r1.1.1 (0 : Int)) (some ((true, ()), ())) (bnd (d12 (x.1, ())) (fun r2 => (bnd (d11 (r2.1.1, ())) (fun r3 => (bnd (d12 (x.1, ())) (fun r4 => (bnd (d13 (r4.1.1, ())) (fun r5 => (cnd (bneB r5.1.1 r3.1.1) (some ((false, ()), ())) (some ((true, ()), ()))))))))))))))
theorem b3 (x : parsDen p3) : runFn Try.f3 p3 r3 e3 x = d3 x := by kernel_rfl
theorem s3 : Sound Try.prog (e3) gvs := ⟨fun _ _ => rfl, fun t T h => (ttB_ok tts tts_ok t T h).1, fun t T h => (ttB_ok tts tts_ok t T h).2, callOf_ok _ (by simp only [List.forall_mem_cons]; exact ⟨k10, k12, k11, k13, fun e he => by simp at he⟩)⟩
theorem k3 : CallsOk Try.prog gls gvs 3 ⟨p3, r3, false, d3⟩ := CallsOk.close (fun k => fn_sound s3 Try.func3 rfl (by decide) (by kernel_rfl) (by kernel_rfl) (f0 := d3) (al := false) (by kernel_rfl) (cf := fun _ _ => none) (fun _ _ h => by cases h) (fun _ _ _ h => by cases h) k) (fun x r h => ⟨0, (b3 x).trans h⟩)
end Go.Proofs.Ytegdhiadikjdbaa
