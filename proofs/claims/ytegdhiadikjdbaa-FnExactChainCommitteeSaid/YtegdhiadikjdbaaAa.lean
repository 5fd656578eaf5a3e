/- What the functions come to: printed by program. Of no condition. -/
import Derived.Test.YtegdhiadikjdbaaMd
import Derived.Test.YtegdhiadikjdbaaRows
set_option linter.unusedVariables false
set_option maxRecDepth 100000
namespace Go.Proofs.Ytegdhiadikjdbaa
open Go.TV
abbrev TPoint : Ty := .prod (.int .i64) (.prod (.int .i64) (.prod .bool .unit))
abbrev tPoint : Type := Int × (Int × (Bool × Unit))
noncomputable def zPoint : tPoint := ((0 : Int), ((0 : Int), (false, ())))
abbrev TPair : Ty := .prod .str (.prod .str .unit)
abbrev tPair : Type := ByteArray × (ByteArray × Unit)
noncomputable def zPair : tPair := ((bs []), ((bs []), ()))
abbrev TEvent : Ty := .prod (.int .i64) (.prod (.int .i64) (.prod (.int .i64) (.prod .str .unit)))
abbrev tEvent : Type := Int × (Int × (Int × (ByteArray × Unit)))
noncomputable def zEvent : tEvent := ((0 : Int), ((0 : Int), ((0 : Int), ((bs []), ()))))
abbrev TCommittee : Ty := .prod (.sl TPoint) .unit
abbrev tCommittee : Type := (List tPoint) × Unit
noncomputable def zCommittee : tCommittee := (([] : List tPoint), ())
abbrev THead : Ty := .prod (.int .i64) (.prod .str TPair)
abbrev tHead : Type := Int × (ByteArray × tPair)
noncomputable def zHead : tHead := ((0 : Int), ((bs []), zPair))
abbrev TAccount : Ty := .prod .str (.prod (.int .i64) (.prod (.int .i64) (.prod (.sl TPair) .unit)))
abbrev tAccount : Type := ByteArray × (Int × (Int × ((List tPair) × Unit)))
noncomputable def zAccount : tAccount := ((bs []), ((0 : Int), ((0 : Int), (([] : List tPair), ()))))
abbrev TChain : Ty := .prod (.int .i64) (.prod (.sl TAccount) .unit)
abbrev tChain : Type := Int × ((List tAccount) × Unit)
noncomputable def zChain : tChain := ((0 : Int), (([] : List tAccount), ()))
abbrev TKeys : Ty := .prod TPoint (.prod TPoint (.prod TPoint (.prod TPoint TCommittee)))
abbrev tKeys : Type := tPoint × (tPoint × (tPoint × (tPoint × tCommittee)))
noncomputable def zKeys : tKeys := (zPoint, (zPoint, (zPoint, (zPoint, zCommittee))))
abbrev TClient : Ty := .prod THead (.prod TCommittee (.prod TCommittee (.prod .bool (.prod TKeys .unit))))
abbrev tClient : Type := tHead × (tCommittee × (tCommittee × (Bool × (tKeys × Unit))))
noncomputable def zClient : tClient := (zHead, (zCommittee, (zCommittee, (false, (zKeys, ())))))
abbrev TBridge : Ty := .prod TClient (.prod TClient (.prod .str (.prod (.int .i64) (.prod (.sl .str) (.prod (.int .i64) .unit)))))
abbrev tBridge : Type := tClient × (tClient × (ByteArray × (Int × ((List ByteArray) × (Int × Unit)))))
noncomputable def zBridge : tBridge := (zClient, (zClient, ((bs []), ((0 : Int), (([] : List ByteArray), ((0 : Int), ()))))))
abbrev pa (t : Ty) : Par := { t := t }
abbrev rt (t : Ty) : Rt := { t := t }
noncomputable def tts : List (Nat × Ty) := [(3, (.int .i64)), (4, .bool), (5, (.int .u8)), (9, .str), (23, (.prod (.int .i64) (.prod (.int .i64) (.prod (.int .i64) (.prod .str .unit))))), (26, (.prod (.int .i64) (.prod (.int .i64) (.prod (.int .i64) (.prod .str .unit))))), (29, (.sl (.prod .str (.prod (.int .i64) (.prod (.int .i64) (.prod (.sl (.prod .str (.prod .str .unit))) .unit)))))), (31, (.prod (.int .i64) (.prod (.sl (.prod .str (.prod (.int .i64) (.prod (.int .i64) (.prod (.sl (.prod .str (.prod .str .unit))) .unit))))) .unit))), (34, (.sl (.prod .str (.prod (.int .i64) (.prod (.int .i64) (.prod (.sl (.prod .str (.prod .str .unit))) .unit)))))), (36, (.prod (.int .i64) (.prod (.sl (.prod .str (.prod (.int .i64) (.prod (.int .i64) (.prod (.sl (.prod .str (.prod .str .unit))) .unit))))) .unit))), (46, (.prod (.int .i64) (.prod .str (.prod .str (.prod .str .unit))))), (47, (.sl (.prod (.int .i64) (.prod (.int .i64) (.prod .bool .unit))))), (49, (.prod (.sl (.prod (.int .i64) (.prod (.int .i64) (.prod .bool .unit)))) .unit)), (51, (.prod (.int .i64) (.prod (.int .i64) (.prod .bool .unit)))), (53, (.prod (.prod (.int .i64) (.prod (.int .i64) (.prod .bool .unit))) (.prod (.prod (.int .i64) (.prod (.int .i64) (.prod .bool .unit))) (.prod (.prod (.int .i64) (.prod (.int .i64) (.prod .bool .unit))) (.prod (.prod (.int .i64) (.prod (.int .i64) (.prod .bool .unit))) (.prod (.sl (.prod (.int .i64) (.prod (.int .i64) (.prod .bool .unit)))) .unit)))))), (55, (.prod (.prod (.int .i64) (.prod .str (.prod .str (.prod .str .unit)))) (.prod (.prod (.sl (.prod (.int .i64) (.prod (.int .i64) (.prod .bool .unit)))) .unit) (.prod (.prod (.sl (.prod (.int .i64) (.prod (.int .i64) (.prod .bool .unit)))) .unit) (.prod .bool (.prod (.prod (.prod (.int .i64) (.prod (.int .i64) (.prod .bool .unit))) (.prod (.prod (.int .i64) (.prod (.int .i64) (.prod .bool .unit))) (.prod (.prod (.int .i64) (.prod (.int .i64) (.prod .bool .unit))) (.prod (.prod (.int .i64) (.prod (.int .i64) (.prod .bool .unit))) (.prod (.sl (.prod (.int .i64) (.prod (.int .i64) (.prod .bool .unit)))) .unit))))) .unit)))))), (56, (.sl .str)), (58, (.prod (.prod (.prod (.int .i64) (.prod .str (.prod .str (.prod .str .unit)))) (.prod (.prod (.sl (.prod (.int .i64) (.prod (.int .i64) (.prod .bool .unit)))) .unit) (.prod (.prod (.sl (.prod (.int .i64) (.prod (.int .i64) (.prod .bool .unit)))) .unit) (.prod .bool (.prod (.prod (.prod (.int .i64) (.prod (.int .i64) (.prod .bool .unit))) (.prod (.prod (.int .i64) (.prod (.int .i64) (.prod .bool .unit))) (.prod (.prod (.int .i64) (.prod (.int .i64) (.prod .bool .unit))) (.prod (.prod (.int .i64) (.prod (.int .i64) (.prod .bool .unit))) (.prod (.sl (.prod (.int .i64) (.prod (.int .i64) (.prod .bool .unit)))) .unit))))) .unit))))) (.prod (.prod (.prod (.int .i64) (.prod .str (.prod .str (.prod .str .unit)))) (.prod (.prod (.sl (.prod (.int .i64) (.prod (.int .i64) (.prod .bool .unit)))) .unit) (.prod (.prod (.sl (.prod (.int .i64) (.prod (.int .i64) (.prod .bool .unit)))) .unit) (.prod .bool (.prod (.prod (.prod (.int .i64) (.prod (.int .i64) (.prod .bool .unit))) (.prod (.prod (.int .i64) (.prod (.int .i64) (.prod .bool .unit))) (.prod (.prod (.int .i64) (.prod (.int .i64) (.prod .bool .unit))) (.prod (.prod (.int .i64) (.prod (.int .i64) (.prod .bool .unit))) (.prod (.sl (.prod (.int .i64) (.prod (.int .i64) (.prod .bool .unit)))) .unit))))) .unit))))) (.prod .str (.prod (.int .i64) (.prod (.sl .str) (.prod (.int .i64) .unit))))))), (60, (.prod (.int .i64) (.prod .str (.prod .str (.prod .str .unit))))), (61, (.sl (.prod (.int .i64) (.prod (.int .i64) (.prod .bool .unit))))), (63, (.prod (.sl (.prod (.int .i64) (.prod (.int .i64) (.prod .bool .unit)))) .unit)), (64, (.prod (.int .i64) (.prod (.int .i64) (.prod .bool .unit)))), (66, (.prod (.prod (.int .i64) (.prod (.int .i64) (.prod .bool .unit))) (.prod (.prod (.int .i64) (.prod (.int .i64) (.prod .bool .unit))) (.prod (.prod (.int .i64) (.prod (.int .i64) (.prod .bool .unit))) (.prod (.prod (.int .i64) (.prod (.int .i64) (.prod .bool .unit))) (.prod (.sl (.prod (.int .i64) (.prod (.int .i64) (.prod .bool .unit)))) .unit)))))), (68, (.prod (.prod (.int .i64) (.prod .str (.prod .str (.prod .str .unit)))) (.prod (.prod (.sl (.prod (.int .i64) (.prod (.int .i64) (.prod .bool .unit)))) .unit) (.prod (.prod (.sl (.prod (.int .i64) (.prod (.int .i64) (.prod .bool .unit)))) .unit) (.prod .bool (.prod (.prod (.prod (.int .i64) (.prod (.int .i64) (.prod .bool .unit))) (.prod (.prod (.int .i64) (.prod (.int .i64) (.prod .bool .unit))) (.prod (.prod (.int .i64) (.prod (.int .i64) (.prod .bool .unit))) (.prod (.prod (.int .i64) (.prod (.int .i64) (.prod .bool .unit))) (.prod (.sl (.prod (.int .i64) (.prod (.int .i64) (.prod .bool .unit)))) .unit))))) .unit)))))), (70, (.prod (.prod (.prod (.int .i64) (.prod .str (.prod .str (.prod .str .unit)))) (.prod (.prod (.sl (.prod (.int .i64) (.prod (.int .i64) (.prod .bool .unit)))) .unit) (.prod (.prod (.sl (.prod (.int .i64) (.prod (.int .i64) (.prod .bool .unit)))) .unit) (.prod .bool (.prod (.prod (.prod (.int .i64) (.prod (.int .i64) (.prod .bool .unit))) (.prod (.prod (.int .i64) (.prod (.int .i64) (.prod .bool .unit))) (.prod (.prod (.int .i64) (.prod (.int .i64) (.prod .bool .unit))) (.prod (.prod (.int .i64) (.prod (.int .i64) (.prod .bool .unit))) (.prod (.sl (.prod (.int .i64) (.prod (.int .i64) (.prod .bool .unit)))) .unit))))) .unit))))) (.prod (.prod (.prod (.int .i64) (.prod .str (.prod .str (.prod .str .unit)))) (.prod (.prod (.sl (.prod (.int .i64) (.prod (.int .i64) (.prod .bool .unit)))) .unit) (.prod (.prod (.sl (.prod (.int .i64) (.prod (.int .i64) (.prod .bool .unit)))) .unit) (.prod .bool (.prod (.prod (.prod (.int .i64) (.prod (.int .i64) (.prod .bool .unit))) (.prod (.prod (.int .i64) (.prod (.int .i64) (.prod .bool .unit))) (.prod (.prod (.int .i64) (.prod (.int .i64) (.prod .bool .unit))) (.prod (.prod (.int .i64) (.prod (.int .i64) (.prod .bool .unit))) (.prod (.sl (.prod (.int .i64) (.prod (.int .i64) (.prod .bool .unit)))) .unit))))) .unit))))) (.prod .str (.prod (.int .i64) (.prod (.sl .str) (.prod (.int .i64) .unit))))))), (89, (.sl (.prod .str (.prod .str .unit)))), (91, (.prod .str (.prod (.int .i64) (.prod (.int .i64) (.prod (.sl (.prod .str (.prod .str .unit))) .unit))))), (112, (.sl (.prod .str (.prod .str .unit)))), (114, (.prod .str (.prod (.int .i64) (.prod (.int .i64) (.prod (.sl (.prod .str (.prod .str .unit))) .unit))))), (119, (.prod .str (.prod .str .unit))), (121, (.sl (.int .u8))), (133, (.sl (.int .i64))), (150, (.prod .str (.prod .str .unit)))]
theorem tts_ok : ttB Try.prog tts = true := by kernel_rfl
theorem mix_ok : Try.prog.follows .mixedOrders = true := by kernel_rfl
noncomputable def gls : Nat → Option VV := fun _ => none
def gvs (i : Nat) : Value := .pointer (some ⟨i, 0, none⟩)
noncomputable def V : Sur := ⟨ttOf tts, gls⟩
theorem V_ok : SurOk Try.prog V gvs := ⟨fun _ _ => rfl, fun t T h => (ttB_ok tts tts_ok t T h).1, fun t T h => (ttB_ok tts tts_ok t T h).2, mix_ok⟩
theorem kN : ∀ e ∈ ([] : List (Nat × Sig)), CallsOk Try.prog gls gvs e.1 e.2 := fun e h => by cases h
theorem kC {f : Nat} {s : Sig} {L : List (Nat × Sig)} (h : CallsOk Try.prog gls gvs f s) (k : ∀ e ∈ L, CallsOk Try.prog gls gvs e.1 e.2) : ∀ e ∈ (f, s) :: L, CallsOk Try.prog gls gvs e.1 e.2 := List.forall_mem_cons.2 ⟨h, k⟩
-- laws.szEvent
noncomputable def wSzEvent_F : FnD := { f := 10, fn := Try.f10, ps := [pa TEvent, pa (.int .i64)], rs := [rt (.int .i64)] }
noncomputable def wSzEvent_c : List (Nat × Sig) := []
noncomputable def wSzEvent_d : tEvent × Int × Unit → Option ((Int × Unit) × Unit) := wSzEvent_F.d V wSzEvent_c
noncomputable abbrev wSzEvent_g : Sig := wSzEvent_F.t.sig wSzEvent_d
theorem wSzEvent_b (x1 : tEvent) (x2 : Int) : wSzEvent_d (x1, (x2, ())) = cnd (ilt (isub .i64 x2 (ssz x1.2.2.2.1)) (0 : Int)) (some (((-1 : Int), ()), ())) (some (((isub .i64 x2 (ssz x1.2.2.2.1)), ()), ())) := (FnD.eq V wSzEvent_c wSzEvent_F (x1, (x2, ()))).trans (by kernel_rfl)
theorem wSzEvent_k : CallsOk Try.prog gls gvs 10 wSzEvent_g := FnD.ok (F := wSzEvent_F) (cs := wSzEvent_c) V_ok kN Try.func10 (by decide) (by kernel_rfl)
-- laws.toEvent
noncomputable def wToEvent_F : FnD := { f := 12, fn := Try.f12, ps := [pa TEvent], rs := [rt TEvent] }
noncomputable def wToEvent_c : List (Nat × Sig) := []
noncomputable def wToEvent_d : tEvent × Unit → Option ((tEvent × Unit) × Unit) := wToEvent_F.d V wToEvent_c
noncomputable abbrev wToEvent_g : Sig := wToEvent_F.t.sig wToEvent_d
theorem wToEvent_b (x1 : tEvent) : wToEvent_d (x1, ()) = some (((x1.1, (x1.2.1, (x1.2.2.1, (x1.2.2.2.1, ())))), ()), ()) := (FnD.eq V wToEvent_c wToEvent_F (x1, ())).trans (by kernel_rfl)
theorem wToEvent_k : CallsOk Try.prog gls gvs 12 wToEvent_g := FnD.ok (F := wToEvent_F) (cs := wToEvent_c) V_ok kN Try.func12 (by decide) (by kernel_rfl)
-- spec.l01In
noncomputable def sL01In_F : FnD := { f := 41, fn := Try.f41, ps := [pa (.int .i64), pa (.int .i64), pa (.int .i64)], rs := [rt .bool] }
noncomputable def sL01In_c : List (Nat × Sig) := []
noncomputable def sL01In_d : Int × Int × Int × Unit → Option ((Bool × Unit) × Unit) := sL01In_F.d V sL01In_c
noncomputable abbrev sL01In_g : Sig := sL01In_F.t.sig sL01In_d
theorem sL01In_b (x1 : Int) (x2 : Int) (x3 : Int) : sL01In_d (x1, (x2, (x3, ()))) = cnd (ige x1 x2) (some (((ile x1 x3), ()), ())) (some ((false, ()), ())) := (FnD.eq V sL01In_c sL01In_F (x1, (x2, (x3, ())))).trans (by kernel_rfl)
theorem sL01In_k : CallsOk Try.prog gls gvs 41 sL01In_g := FnD.ok (F := sL01In_F) (cs := sL01In_c) V_ok kN Try.func41 (by decide) (by kernel_rfl)
-- spec.EventOk
noncomputable def sEventOk_F : FnD := { f := 11, fn := Try.f11, ps := [pa TEvent], rs := [rt .bool] }
noncomputable def sEventOk_c : List (Nat × Sig) := [(41, sL01In_g)]
noncomputable def sEventOk_d : tEvent × Unit → Option ((Bool × Unit) × Unit) := sEventOk_F.d V sEventOk_c
noncomputable abbrev sEventOk_g : Sig := sEventOk_F.t.sig sEventOk_d
theorem sEventOk_b (x1 : tEvent) : sEventOk_d (x1, ()) = bnd (sL01In_d (x1.1, ((1 : Int), ((7 : Int), ())))) (fun r1 => (cnd (bnot r1.1.1) (some ((false, ()), ())) (cnd (ilt x1.2.1 (0 : Int)) (some ((false, ()), ())) (cnd (ilt x1.2.2.1 (0 : Int)) (some ((false, ()), ())) (cnd (ieq x1.1 (2 : Int)) (some (((ile (ssz x1.2.2.2.1) (60 : Int)), ()), ())) (cnd (ieq x1.1 (7 : Int)) (some (((ieq (ssz x1.2.2.2.1) (4 : Int)), ()), ())) (some (((seq x1.2.2.2.1 (bs [])), ()), ())))))))) := (FnD.eq V sEventOk_c sEventOk_F (x1, ())).trans (by kernel_rfl)
theorem sEventOk_k : CallsOk Try.prog gls gvs 11 sEventOk_g := FnD.ok (F := sEventOk_F) (cs := sEventOk_c) V_ok (kC sL01In_k kN) Try.func11 (by decide) (by kernel_rfl)
-- impl.EventOk
noncomputable def iEventOk_F : FnD := { f := 13, fn := Try.f13, ps := [pa TEvent], rs := [rt .bool] }
noncomputable def iEventOk_c : List (Nat × Sig) := []
noncomputable def iEventOk_d : tEvent × Unit → Option ((Bool × Unit) × Unit) := iEventOk_F.d V iEventOk_c
noncomputable abbrev iEventOk_g : Sig := iEventOk_F.t.sig iEventOk_d
theorem iEventOk_b (x1 : tEvent) : iEventOk_d (x1, ()) = cnd (ilt x1.1 (1 : Int)) (some ((false, ()), ())) (cnd (igt x1.1 (7 : Int)) (some ((false, ()), ())) (cnd (ilt x1.2.1 (0 : Int)) (some ((false, ()), ())) (cnd (ilt x1.2.2.1 (0 : Int)) (some ((false, ()), ())) (cnd (ieq x1.1 (2 : Int)) (some (((ile (ssz x1.2.2.2.1) (60 : Int)), ()), ())) (cnd (ieq x1.1 (7 : Int)) (some (((ieq (ssz x1.2.2.2.1) (4 : Int)), ()), ())) (some (((seq x1.2.2.2.1 (bs [])), ()), ()))))))) := (FnD.eq V iEventOk_c iEventOk_F (x1, ())).trans (by kernel_rfl)
theorem iEventOk_k : CallsOk Try.prog gls gvs 13 iEventOk_g := FnD.ok (F := iEventOk_F) (cs := iEventOk_c) V_ok kN Try.func13 (by decide) (by kernel_rfl)
-- laws.FnExactEventOk
noncomputable def wFnExactEventOk_F : FnD := { f := 3, fn := Try.f3, ps := [pa TEvent], rs := [rt .bool] }
noncomputable def wFnExactEventOk_c : List (Nat × Sig) := [(10, wSzEvent_g), (12, wToEvent_g), (11, sEventOk_g), (13, iEventOk_g)]
noncomputable def wFnExactEventOk_d : tEvent × Unit → Option ((Bool × Unit) × Unit) := wFnExactEventOk_F.d V wFnExactEventOk_c
noncomputable abbrev wFnExactEventOk_g : Sig := wFnExactEventOk_F.t.sig wFnExactEventOk_d
theorem wFnExactEventOk_b (x1 : tEvent) : wFnExactEventOk_d (x1, ()) = bnd (wSzEvent_d (x1, ((1048576 : Int), ()))) (fun r1 => (cnd (ilt r1.1.1 (0 : Int)) (some ((true, ()), ())) (bnd (wToEvent_d (x1, ())) (fun r2 => (bnd (sEventOk_d (r2.1.1, ())) (fun r3 => (bnd (wToEvent_d (x1, ())) (fun r4 => (bnd (iEventOk_d (r4.1.1, ())) (fun r5 => (cnd (bneB r5.1.1 r3.1.1) (some ((false, ()), ())) (some ((true, ()), ()))))))))))))) := (FnD.eq V wFnExactEventOk_c wFnExactEventOk_F (x1, ())).trans (by kernel_rfl)
theorem wFnExactEventOk_k : CallsOk Try.prog gls gvs 3 wFnExactEventOk_g := FnD.ok (F := wFnExactEventOk_F) (cs := wFnExactEventOk_c) V_ok (kC wSzEvent_k (kC wToEvent_k (kC sEventOk_k (kC iEventOk_k kN)))) Try.func3 (by decide) (by kernel_rfl)
-- laws.szPair
noncomputable def wSzPair_F : FnD := { f := 113, fn := Try.f113, ps := [pa TPair, pa (.int .i64)], rs := [rt (.int .i64)] }
noncomputable def wSzPair_c : List (Nat × Sig) := []
noncomputable def wSzPair_d : tPair × Int × Unit → Option ((Int × Unit) × Unit) := wSzPair_F.d V wSzPair_c
noncomputable abbrev wSzPair_g : Sig := wSzPair_F.t.sig wSzPair_d
theorem wSzPair_b (x1 : tPair) (x2 : Int) : wSzPair_d (x1, (x2, ())) = cnd (ilt (isub .i64 x2 (ssz x1.1)) (0 : Int)) (some (((-1 : Int), ()), ())) (cnd (ilt (isub .i64 (isub .i64 x2 (ssz x1.1)) (ssz x1.2.1)) (0 : Int)) (some (((-1 : Int), ()), ())) (some (((isub .i64 (isub .i64 x2 (ssz x1.1)) (ssz x1.2.1)), ()), ()))) := (FnD.eq V wSzPair_c wSzPair_F (x1, (x2, ()))).trans (by kernel_rfl)
theorem wSzPair_k : CallsOk Try.prog gls gvs 113 wSzPair_g := FnD.ok (F := wSzPair_F) (cs := wSzPair_c) V_ok kN Try.func113 (by decide) (by kernel_rfl)
-- laws.szPairS
noncomputable def wSzPairS_F : FnD := { f := 97, fn := Try.f97, ps := [pa (.sl TPair), pa (.int .i64)], rs := [rt (.int .i64)], cuts := [(5, [.val 0 (.sl TPair) .sh, .val 1 (.int .i64) .sh, .val 5 (.int .i64) .sh])] }
noncomputable def wSzPairS_c : List (Nat × Sig) := [(113, wSzPair_g)]
noncomputable def wSzPairS_d : (List tPair) × Int × Unit → Option ((Int × Unit) × Unit) := wSzPairS_F.d V wSzPairS_c
noncomputable abbrev wSzPairS_g : Sig := wSzPairS_F.t.sig wSzPairS_d
noncomputable def wSzPairS_D5 : (List tPair) × Int × Int × Unit → Option ((Int × Unit) × Unit) := wSzPairS_F.D V wSzPairS_c 5
theorem wSzPairS_b (x1 : (List tPair)) (x2 : Int) : wSzPairS_d (x1, (x2, ())) = cnd (ilt (isub .i64 x2 (len x1)) (0 : Int)) (some (((-1 : Int), ()), ())) (wSzPairS_D5 (x1, ((isub .i64 x2 (len x1)), ((0 : Int), ())))) := (FnD.eq V wSzPairS_c wSzPairS_F (x1, (x2, ()))).trans (by kernel_rfl)
theorem wSzPairS_q5 (x1 : (List tPair)) (x2 : Int) (x3 : Int) : wSzPairS_D5 (x1, (x2, (x3, ()))) = cnd (ilt x3 (len x1)) (cnd (inb x3 (len x1)) (bnd (wSzPair_d ((rd zPair x1 x3), (x2, ()))) (fun r3 => (cnd (ilt r3.1.1 (0 : Int)) (some (((-1 : Int), ()), ())) (wSzPairS_D5 (x1, (r3.1.1, ((iadd .i64 x3 (1 : Int)), ()))))))) none) (some ((x2, ()), ())) := (FnD.eqC V wSzPairS_c wSzPairS_F 5 (x1, (x2, (x3, ())))).trans (by kernel_rfl)
theorem wSzPairS_k : CallsOk Try.prog gls gvs 97 wSzPairS_g := FnD.ok (F := wSzPairS_F) (cs := wSzPairS_c) V_ok (kC wSzPair_k kN) Try.func97 (by decide) (by kernel_rfl)
-- laws.szAccount
noncomputable def wSzAccount_F : FnD := { f := 72, fn := Try.f72, ps := [pa TAccount, pa (.int .i64)], rs := [rt (.int .i64)] }
noncomputable def wSzAccount_c : List (Nat × Sig) := [(97, wSzPairS_g)]
noncomputable def wSzAccount_d : tAccount × Int × Unit → Option ((Int × Unit) × Unit) := wSzAccount_F.d V wSzAccount_c
noncomputable abbrev wSzAccount_g : Sig := wSzAccount_F.t.sig wSzAccount_d
theorem wSzAccount_b (x1 : tAccount) (x2 : Int) : wSzAccount_d (x1, (x2, ())) = cnd (ilt (isub .i64 x2 (ssz x1.1)) (0 : Int)) (some (((-1 : Int), ()), ())) (bnd (wSzPairS_d (x1.2.2.2.1, ((isub .i64 x2 (ssz x1.1)), ()))) (fun r2 => (cnd (ilt r2.1.1 (0 : Int)) (some (((-1 : Int), ()), ())) (some ((r2.1.1, ()), ()))))) := (FnD.eq V wSzAccount_c wSzAccount_F (x1, (x2, ()))).trans (by kernel_rfl)
theorem wSzAccount_k : CallsOk Try.prog gls gvs 72 wSzAccount_g := FnD.ok (F := wSzAccount_F) (cs := wSzAccount_c) V_ok (kC wSzPairS_k kN) Try.func72 (by decide) (by kernel_rfl)
-- laws.szAccountS
noncomputable def wSzAccountS_F : FnD := { f := 42, fn := Try.f42, ps := [pa (.sl TAccount), pa (.int .i64)], rs := [rt (.int .i64)], cuts := [(5, [.val 0 (.sl TAccount) .sh, .val 1 (.int .i64) .sh, .val 5 (.int .i64) .sh])] }
noncomputable def wSzAccountS_c : List (Nat × Sig) := [(72, wSzAccount_g)]
noncomputable def wSzAccountS_d : (List tAccount) × Int × Unit → Option ((Int × Unit) × Unit) := wSzAccountS_F.d V wSzAccountS_c
noncomputable abbrev wSzAccountS_g : Sig := wSzAccountS_F.t.sig wSzAccountS_d
noncomputable def wSzAccountS_D5 : (List tAccount) × Int × Int × Unit → Option ((Int × Unit) × Unit) := wSzAccountS_F.D V wSzAccountS_c 5
theorem wSzAccountS_b (x1 : (List tAccount)) (x2 : Int) : wSzAccountS_d (x1, (x2, ())) = cnd (ilt (isub .i64 x2 (len x1)) (0 : Int)) (some (((-1 : Int), ()), ())) (wSzAccountS_D5 (x1, ((isub .i64 x2 (len x1)), ((0 : Int), ())))) := (FnD.eq V wSzAccountS_c wSzAccountS_F (x1, (x2, ()))).trans (by kernel_rfl)
theorem wSzAccountS_q5 (x1 : (List tAccount)) (x2 : Int) (x3 : Int) : wSzAccountS_D5 (x1, (x2, (x3, ()))) = cnd (ilt x3 (len x1)) (cnd (inb x3 (len x1)) (bnd (wSzAccount_d ((rd zAccount x1 x3), (x2, ()))) (fun r3 => (cnd (ilt r3.1.1 (0 : Int)) (some (((-1 : Int), ()), ())) (wSzAccountS_D5 (x1, (r3.1.1, ((iadd .i64 x3 (1 : Int)), ()))))))) none) (some ((x2, ()), ())) := (FnD.eqC V wSzAccountS_c wSzAccountS_F 5 (x1, (x2, (x3, ())))).trans (by kernel_rfl)
theorem wSzAccountS_k : CallsOk Try.prog gls gvs 42 wSzAccountS_g := FnD.ok (F := wSzAccountS_F) (cs := wSzAccountS_c) V_ok (kC wSzAccount_k kN) Try.func42 (by decide) (by kernel_rfl)
-- laws.szChain
noncomputable def wSzChain_F : FnD := { f := 14, fn := Try.f14, ps := [pa TChain, pa (.int .i64)], rs := [rt (.int .i64)] }
noncomputable def wSzChain_c : List (Nat × Sig) := [(42, wSzAccountS_g)]
noncomputable def wSzChain_d : tChain × Int × Unit → Option ((Int × Unit) × Unit) := wSzChain_F.d V wSzChain_c
noncomputable abbrev wSzChain_g : Sig := wSzChain_F.t.sig wSzChain_d
theorem wSzChain_b (x1 : tChain) (x2 : Int) : wSzChain_d (x1, (x2, ())) = bnd (wSzAccountS_d (x1.2.1, (x2, ()))) (fun r2 => (cnd (ilt r2.1.1 (0 : Int)) (some (((-1 : Int), ()), ())) (some ((r2.1.1, ()), ())))) := (FnD.eq V wSzChain_c wSzChain_F (x1, (x2, ()))).trans (by kernel_rfl)
theorem wSzChain_k : CallsOk Try.prog gls gvs 14 wSzChain_g := FnD.ok (F := wSzChain_F) (cs := wSzChain_c) V_ok (kC wSzAccountS_k kN) Try.func14 (by decide) (by kernel_rfl)
-- laws.toPair
noncomputable def wToPair_F : FnD := { f := 114, fn := Try.f114, ps := [pa TPair], rs := [rt TPair] }
noncomputable def wToPair_c : List (Nat × Sig) := []
noncomputable def wToPair_d : tPair × Unit → Option ((tPair × Unit) × Unit) := wToPair_F.d V wToPair_c
noncomputable abbrev wToPair_g : Sig := wToPair_F.t.sig wToPair_d
theorem wToPair_b (x1 : tPair) : wToPair_d (x1, ()) = some (((x1.1, (x1.2.1, ())), ()), ()) := (FnD.eq V wToPair_c wToPair_F (x1, ())).trans (by kernel_rfl)
theorem wToPair_k : CallsOk Try.prog gls gvs 114 wToPair_g := FnD.ok (F := wToPair_F) (cs := wToPair_c) V_ok kN Try.func114 (by decide) (by kernel_rfl)
-- laws.toPairS
noncomputable def wToPairS_F : FnD := { f := 98, fn := Try.f98, ps := [pa (.sl TPair)], rs := [⟨(.sl TPair), (.own 0 .sh), false⟩], cuts := [(3, [.val 0 (.sl TPair) .sh, .val 3 (.sl TPair) (.own 0 .sh), .val 4 (.int .i64) .sh])] }
noncomputable def wToPairS_c : List (Nat × Sig) := [(114, wToPair_g)]
noncomputable def wToPairS_d : (List tPair) × Unit → Option (((List tPair) × Unit) × Unit) := wToPairS_F.d V wToPairS_c
noncomputable abbrev wToPairS_g : Sig := wToPairS_F.t.sig wToPairS_d
noncomputable def wToPairS_D3 : (List tPair) × (List tPair) × Int × Unit → Option (((List tPair) × Unit) × Unit) := wToPairS_F.D V wToPairS_c 3
theorem wToPairS_b (x1 : (List tPair)) : wToPairS_d (x1, ()) = cnd (both (inb2 (0 : Int) (len x1) (len x1)) (fits (len x1) 2)) (wToPairS_D3 (x1, ((rep (len x1) zPair), ((0 : Int), ())))) none := (FnD.eq V wToPairS_c wToPairS_F (x1, ())).trans (by kernel_rfl)
theorem wToPairS_q3 (x1 : (List tPair)) (x2 : (List tPair)) (x3 : Int) : wToPairS_D3 (x1, (x2, (x3, ()))) = cnd (ilt x3 (len x1)) (cnd (inb x3 (len x1)) (bnd (wToPair_d ((rd zPair x1 x3), ())) (fun r3 => (cnd (inb x3 (len x2)) (wToPairS_D3 (x1, ((upd x2 x3 r3.1.1), ((iadd .i64 x3 (1 : Int)), ())))) none))) none) (some ((x2, ()), ())) := (FnD.eqC V wToPairS_c wToPairS_F 3 (x1, (x2, (x3, ())))).trans (by kernel_rfl)
theorem wToPairS_k : CallsOk Try.prog gls gvs 98 wToPairS_g := FnD.ok (F := wToPairS_F) (cs := wToPairS_c) V_ok (kC wToPair_k kN) Try.func98 (by decide) (by kernel_rfl)
-- laws.toAccount
noncomputable def wToAccount_F : FnD := { f := 74, fn := Try.f74, ps := [pa TAccount], rs := [⟨TAccount, (.pr .sh (.pr .sh (.pr .sh (.pr (.own 0 .sh) .sh)))), false⟩] }
noncomputable def wToAccount_c : List (Nat × Sig) := [(98, wToPairS_g)]
noncomputable def wToAccount_d : tAccount × Unit → Option ((tAccount × Unit) × Unit) := wToAccount_F.d V wToAccount_c
noncomputable abbrev wToAccount_g : Sig := wToAccount_F.t.sig wToAccount_d
theorem wToAccount_b (x1 : tAccount) : wToAccount_d (x1, ()) = bnd (wToPairS_d (x1.2.2.2.1, ())) (fun r1 => (some (((x1.1, (x1.2.1, (x1.2.2.1, (r1.1.1, ())))), ()), ()))) := (FnD.eq V wToAccount_c wToAccount_F (x1, ())).trans (by kernel_rfl)
theorem wToAccount_k : CallsOk Try.prog gls gvs 74 wToAccount_g := FnD.ok (F := wToAccount_F) (cs := wToAccount_c) V_ok (kC wToPairS_k kN) Try.func74 (by decide) (by kernel_rfl)
-- laws.toAccountS
noncomputable def wToAccountS_F : FnD := { f := 44, fn := Try.f44, ps := [pa (.sl TAccount)], rs := [⟨(.sl TAccount), (.own 0 (.pr .sh (.pr .sh (.pr .sh (.pr (.own 0 .sh) .sh))))), false⟩], cuts := [(3, [.val 0 (.sl TAccount) .sh, .val 3 (.sl TAccount) (.own 0 (.pr .sh (.pr .sh (.pr .sh (.pr (.own 0 .sh) .sh))))), .val 4 (.int .i64) .sh])] }
noncomputable def wToAccountS_c : List (Nat × Sig) := [(74, wToAccount_g)]
noncomputable def wToAccountS_d : (List tAccount) × Unit → Option (((List tAccount) × Unit) × Unit) := wToAccountS_F.d V wToAccountS_c
noncomputable abbrev wToAccountS_g : Sig := wToAccountS_F.t.sig wToAccountS_d
noncomputable def wToAccountS_D3 : (List tAccount) × (List tAccount) × Int × Unit → Option (((List tAccount) × Unit) × Unit) := wToAccountS_F.D V wToAccountS_c 3
theorem wToAccountS_b (x1 : (List tAccount)) : wToAccountS_d (x1, ()) = cnd (both (inb2 (0 : Int) (len x1) (len x1)) (fits (len x1) 4)) (wToAccountS_D3 (x1, ((rep (len x1) zAccount), ((0 : Int), ())))) none := (FnD.eq V wToAccountS_c wToAccountS_F (x1, ())).trans (by kernel_rfl)
theorem wToAccountS_q3 (x1 : (List tAccount)) (x2 : (List tAccount)) (x3 : Int) : wToAccountS_D3 (x1, (x2, (x3, ()))) = cnd (ilt x3 (len x1)) (cnd (inb x3 (len x1)) (bnd (wToAccount_d ((rd zAccount x1 x3), ())) (fun r3 => (cnd (inb x3 (len x2)) (wToAccountS_D3 (x1, ((upd x2 x3 r3.1.1), ((iadd .i64 x3 (1 : Int)), ())))) none))) none) (some ((x2, ()), ())) := (FnD.eqC V wToAccountS_c wToAccountS_F 3 (x1, (x2, (x3, ())))).trans (by kernel_rfl)
theorem wToAccountS_k : CallsOk Try.prog gls gvs 44 wToAccountS_g := FnD.ok (F := wToAccountS_F) (cs := wToAccountS_c) V_ok (kC wToAccount_k kN) Try.func44 (by decide) (by kernel_rfl)
-- laws.toChain
noncomputable def wToChain_F : FnD := { f := 16, fn := Try.f16, ps := [pa TChain], rs := [⟨TChain, (.pr .sh (.pr (.own 0 (.pr .sh (.pr .sh (.pr .sh (.pr (.own 0 .sh) .sh))))) .sh)), false⟩] }
noncomputable def wToChain_c : List (Nat × Sig) := [(44, wToAccountS_g)]
noncomputable def wToChain_d : tChain × Unit → Option ((tChain × Unit) × Unit) := wToChain_F.d V wToChain_c
noncomputable abbrev wToChain_g : Sig := wToChain_F.t.sig wToChain_d
theorem wToChain_b (x1 : tChain) : wToChain_d (x1, ()) = bnd (wToAccountS_d (x1.2.1, ())) (fun r1 => (some (((x1.1, (r1.1.1, ())), ()), ()))) := (FnD.eq V wToChain_c wToChain_F (x1, ())).trans (by kernel_rfl)
theorem wToChain_k : CallsOk Try.prog gls gvs 16 wToChain_g := FnD.ok (F := wToChain_F) (cs := wToChain_c) V_ok (kC wToAccountS_k kN) Try.func16 (by decide) (by kernel_rfl)
-- spec.PairsOk
noncomputable def sPairsOk_F : FnD := { f := 73, fn := Try.f73, ps := [pa (.sl TPair)], rs := [rt .bool], cuts := [(2, [.val 0 (.sl TPair) .sh, .val 3 (.int .i64) .sh])] }
noncomputable def sPairsOk_c : List (Nat × Sig) := [(41, sL01In_g)]
noncomputable def sPairsOk_d : (List tPair) × Unit → Option ((Bool × Unit) × Unit) := sPairsOk_F.d V sPairsOk_c
noncomputable abbrev sPairsOk_g : Sig := sPairsOk_F.t.sig sPairsOk_d
noncomputable def sPairsOk_D2 : (List tPair) × Int × Unit → Option ((Bool × Unit) × Unit) := sPairsOk_F.D V sPairsOk_c 2
theorem sPairsOk_b (x1 : (List tPair)) : sPairsOk_d (x1, ()) = sPairsOk_D2 (x1, ((0 : Int), ())) := (FnD.eq V sPairsOk_c sPairsOk_F (x1, ())).trans (by kernel_rfl)
theorem sPairsOk_q2 (x1 : (List tPair)) (x2 : Int) : sPairsOk_D2 (x1, (x2, ())) = cnd (ilt x2 (len x1)) (cnd (inb x2 (len x1)) (cnd (ine (ssz (rd zPair x1 x2).1) (4 : Int)) (some ((false, ()), ())) (cnd (inb x2 (len x1)) (bnd (sL01In_d ((ssz (rd zPair x1 x2).2.1), ((1 : Int), ((60 : Int), ())))) (fun r2 => (cnd (bnot r2.1.1) (some ((false, ()), ())) (cnd (igt x2 (0 : Int)) (cnd (inb (isub .i64 x2 (1 : Int)) (len x1)) (cnd (inb x2 (len x1)) (cnd (sge (rd zPair x1 (isub .i64 x2 (1 : Int))).1 (rd zPair x1 x2).1) (some ((false, ()), ())) (sPairsOk_D2 (x1, ((iadd .i64 x2 (1 : Int)), ())))) none) none) (sPairsOk_D2 (x1, ((iadd .i64 x2 (1 : Int)), ()))))))) none)) none) (some (((ile (len x1) (12 : Int)), ()), ())) := (FnD.eqC V sPairsOk_c sPairsOk_F 2 (x1, (x2, ()))).trans (by kernel_rfl)
theorem sPairsOk_k : CallsOk Try.prog gls gvs 73 sPairsOk_g := FnD.ok (F := sPairsOk_F) (cs := sPairsOk_c) V_ok (kC sL01In_k kN) Try.func73 (by decide) (by kernel_rfl)
-- spec.AccountsOk
noncomputable def sAccountsOk_F : FnD := { f := 43, fn := Try.f43, ps := [pa (.sl TAccount)], rs := [rt .bool], cuts := [(2, [.val 0 (.sl TAccount) .sh, .val 3 (.int .i64) .sh])] }
noncomputable def sAccountsOk_c : List (Nat × Sig) := [(41, sL01In_g), (73, sPairsOk_g)]
noncomputable def sAccountsOk_d : (List tAccount) × Unit → Option ((Bool × Unit) × Unit) := sAccountsOk_F.d V sAccountsOk_c
noncomputable abbrev sAccountsOk_g : Sig := sAccountsOk_F.t.sig sAccountsOk_d
noncomputable def sAccountsOk_D2 : (List tAccount) × Int × Unit → Option ((Bool × Unit) × Unit) := sAccountsOk_F.D V sAccountsOk_c 2
theorem sAccountsOk_b (x1 : (List tAccount)) : sAccountsOk_d (x1, ()) = sAccountsOk_D2 (x1, ((0 : Int), ())) := (FnD.eq V sAccountsOk_c sAccountsOk_F (x1, ())).trans (by kernel_rfl)
theorem sAccountsOk_q2 (x1 : (List tAccount)) (x2 : Int) : sAccountsOk_D2 (x1, (x2, ())) = cnd (ilt x2 (len x1)) (cnd (inb x2 (len x1)) (cnd (ine (ssz (rd zAccount x1 x2).1) (4 : Int)) (some ((false, ()), ())) (cnd (igt x2 (0 : Int)) (cnd (inb (isub .i64 x2 (1 : Int)) (len x1)) (cnd (sge (rd zAccount x1 (isub .i64 x2 (1 : Int))).1 (rd zAccount x1 x2).1) (some ((false, ()), ())) (bnd (sL01In_d ((rd zAccount x1 x2).2.1, ((0 : Int), ((1000 : Int), ())))) (fun r2 => (cnd (bnot r2.1.1) (some ((false, ()), ())) (bnd (sL01In_d ((rd zAccount x1 x2).2.2.1, ((0 : Int), ((1000000000 : Int), ())))) (fun r3 => (cnd (bnot r3.1.1) (some ((false, ()), ())) (bnd (sPairsOk_d ((rd zAccount x1 x2).2.2.2.1, ())) (fun r4 => (cnd (bnot r4.1.1) (some ((false, ()), ())) (sAccountsOk_D2 (x1, ((iadd .i64 x2 (1 : Int)), ()))))))))))))) none) (bnd (sL01In_d ((rd zAccount x1 x2).2.1, ((0 : Int), ((1000 : Int), ())))) (fun r2 => (cnd (bnot r2.1.1) (some ((false, ()), ())) (bnd (sL01In_d ((rd zAccount x1 x2).2.2.1, ((0 : Int), ((1000000000 : Int), ())))) (fun r3 => (cnd (bnot r3.1.1) (some ((false, ()), ())) (bnd (sPairsOk_d ((rd zAccount x1 x2).2.2.2.1, ())) (fun r4 => (cnd (bnot r4.1.1) (some ((false, ()), ())) (sAccountsOk_D2 (x1, ((iadd .i64 x2 (1 : Int)), ())))))))))))))) none) (some (((ile (len x1) (12 : Int)), ()), ())) := (FnD.eqC V sAccountsOk_c sAccountsOk_F 2 (x1, (x2, ()))).trans (by kernel_rfl)
theorem sAccountsOk_k : CallsOk Try.prog gls gvs 43 sAccountsOk_g := FnD.ok (F := sAccountsOk_F) (cs := sAccountsOk_c) V_ok (kC sL01In_k (kC sPairsOk_k kN)) Try.func43 (by decide) (by kernel_rfl)
-- spec.ChainOk
noncomputable def sChainOk_F : FnD := { f := 15, fn := Try.f15, ps := [pa TChain], rs := [rt .bool] }
noncomputable def sChainOk_c : List (Nat × Sig) := [(41, sL01In_g), (43, sAccountsOk_g)]
noncomputable def sChainOk_d : tChain × Unit → Option ((Bool × Unit) × Unit) := sChainOk_F.d V sChainOk_c
noncomputable abbrev sChainOk_g : Sig := sChainOk_F.t.sig sChainOk_d
theorem sChainOk_b (x1 : tChain) : sChainOk_d (x1, ()) = bnd (sL01In_d (x1.1, ((0 : Int), ((99 : Int), ())))) (fun r1 => (cnd r1.1.1 (bnd (sAccountsOk_d (x1.2.1, ())) (fun r2 => (some ((r2.1.1, ()), ())))) (some ((false, ()), ())))) := (FnD.eq V sChainOk_c sChainOk_F (x1, ())).trans (by kernel_rfl)
theorem sChainOk_k : CallsOk Try.prog gls gvs 15 sChainOk_g := FnD.ok (F := sChainOk_F) (cs := sChainOk_c) V_ok (kC sL01In_k (kC sAccountsOk_k kN)) Try.func15 (by decide) (by kernel_rfl)
-- impl.PairsOk
noncomputable def iPairsOk_F : FnD := { f := 75, fn := Try.f75, ps := [pa (.sl TPair)], rs := [rt .bool], cuts := [(4, [.val 0 (.sl TPair) .sh, .val 8 (.sl TPair) .sh, .val 9 (.int .i64) .sh, .val 10 (.int .i64) .sh])] }
noncomputable def iPairsOk_c : List (Nat × Sig) := []
noncomputable def iPairsOk_d : (List tPair) × Unit → Option ((Bool × Unit) × Unit) := iPairsOk_F.d V iPairsOk_c
noncomputable abbrev iPairsOk_g : Sig := iPairsOk_F.t.sig iPairsOk_d
noncomputable def iPairsOk_D4 : (List tPair) × (List tPair) × Int × Int × Unit → Option ((Bool × Unit) × Unit) := iPairsOk_F.D V iPairsOk_c 4
theorem iPairsOk_b (x1 : (List tPair)) : iPairsOk_d (x1, ()) = cnd (igt (len x1) (12 : Int)) (some ((false, ()), ())) (iPairsOk_D4 (x1, (x1, ((len x1), ((0 : Int), ()))))) := (FnD.eq V iPairsOk_c iPairsOk_F (x1, ())).trans (by kernel_rfl)
theorem iPairsOk_q4 (x1 : (List tPair)) (x2 : (List tPair)) (x3 : Int) (x4 : Int) : iPairsOk_D4 (x1, (x2, (x3, (x4, ())))) = cnd (ilt x4 x3) (cnd (inb x4 (len x2)) (cnd (ine (ssz (rd zPair x2 x4).1) (4 : Int)) (some ((false, ()), ())) (cnd (ilt (ssz (rd zPair x2 x4).2.1) (1 : Int)) (some ((false, ()), ())) (cnd (igt (ssz (rd zPair x2 x4).2.1) (60 : Int)) (some ((false, ()), ())) (cnd (igt x4 (0 : Int)) (cnd (inb (isub .i64 x4 (1 : Int)) (len x1)) (cnd (sge (rd zPair x1 (isub .i64 x4 (1 : Int))).1 (rd zPair x2 x4).1) (some ((false, ()), ())) (iPairsOk_D4 (x1, (x2, (x3, ((iadd .i64 x4 (1 : Int)), ())))))) none) (iPairsOk_D4 (x1, (x2, (x3, ((iadd .i64 x4 (1 : Int)), ()))))))))) none) (some ((true, ()), ())) := (FnD.eqC V iPairsOk_c iPairsOk_F 4 (x1, (x2, (x3, (x4, ()))))).trans (by kernel_rfl)
theorem iPairsOk_k : CallsOk Try.prog gls gvs 75 iPairsOk_g := FnD.ok (F := iPairsOk_F) (cs := iPairsOk_c) V_ok kN Try.func75 (by decide) (by kernel_rfl)
-- impl.AccountsOk
noncomputable def iAccountsOk_F : FnD := { f := 45, fn := Try.f45, ps := [pa (.sl TAccount)], rs := [rt .bool], joins := [8], cuts := [(8, [.val 0 (.sl TAccount) .sh, .val 8 (.sl TAccount) .sh, .val 9 (.int .i64) .sh, .val 10 (.int .i64) .sh, .val 20 (.int .i64) .sh, .val 21 .bool .sh, .val 22 .bool .sh, .val 32 .bool .sh, .box 4 TAccount .sh, .ptr 4 4 0]), (4, [.val 0 (.sl TAccount) .sh, .val 8 (.sl TAccount) .sh, .val 9 (.int .i64) .sh, .val 10 (.int .i64) .sh])] }
noncomputable def iAccountsOk_c : List (Nat × Sig) := [(75, iPairsOk_g)]
noncomputable def iAccountsOk_d : (List tAccount) × Unit → Option ((Bool × Unit) × Unit) := iAccountsOk_F.d V iAccountsOk_c
noncomputable abbrev iAccountsOk_g : Sig := iAccountsOk_F.t.sig iAccountsOk_d
noncomputable def iAccountsOk_D8 : (List tAccount) × (List tAccount) × Int × Int × Int × Bool × Bool × Bool × tAccount × Unit → Option ((Bool × Unit) × Unit) := iAccountsOk_F.D V iAccountsOk_c 8
noncomputable def iAccountsOk_D4 : (List tAccount) × (List tAccount) × Int × Int × Unit → Option ((Bool × Unit) × Unit) := iAccountsOk_F.D V iAccountsOk_c 4
theorem iAccountsOk_b (x1 : (List tAccount)) : iAccountsOk_d (x1, ()) = cnd (igt (len x1) (12 : Int)) (some ((false, ()), ())) (iAccountsOk_D4 (x1, (x1, ((len x1), ((0 : Int), ()))))) := (FnD.eq V iAccountsOk_c iAccountsOk_F (x1, ())).trans (by kernel_rfl)
theorem iAccountsOk_q8 (x1 : (List tAccount)) (x2 : (List tAccount)) (x3 : Int) (x4 : Int) (x5 : Int) (x6 : Bool) (x7 : Bool) (x8 : Bool) (x9 : tAccount) : iAccountsOk_D8 (x1, (x2, (x3, (x4, (x5, (x6, (x7, (x8, (x9, ()))))))))) = cnd (ilt x9.2.1 (0 : Int)) (some ((false, ()), ())) (cnd (igt x9.2.1 (1000 : Int)) (some ((false, ()), ())) (cnd (ilt x9.2.2.1 (0 : Int)) (some ((false, ()), ())) (cnd (igt x9.2.2.1 (1000000000 : Int)) (some ((false, ()), ())) (bnd (iPairsOk_d (x9.2.2.2.1, ())) (fun r9 => (cnd (bnot r9.1.1) (some ((false, ()), ())) (iAccountsOk_D4 (x1, (x2, (x3, ((iadd .i64 x4 (1 : Int)), ()))))))))))) := (FnD.eqC V iAccountsOk_c iAccountsOk_F 8 (x1, (x2, (x3, (x4, (x5, (x6, (x7, (x8, (x9, ())))))))))).trans (by kernel_rfl)
theorem iAccountsOk_q4 (x1 : (List tAccount)) (x2 : (List tAccount)) (x3 : Int) (x4 : Int) : iAccountsOk_D4 (x1, (x2, (x3, (x4, ())))) = cnd (ilt x4 x3) (cnd (inb x4 (len x2)) (cnd (ine (ssz (rd zAccount x2 x4).1) (4 : Int)) (some ((false, ()), ())) (cnd (igt x4 (0 : Int)) (cnd (inb (isub .i64 x4 (1 : Int)) (len x1)) (cnd (sge (rd zAccount x1 (isub .i64 x4 (1 : Int))).1 (rd zAccount x2 x4).1) (some ((false, ()), ())) (iAccountsOk_D8 (x1, (x2, (x3, (x4, (x4, ((igt x4 (0 : Int)), (true, ((sge (rd zAccount x1 (isub .i64 x4 (1 : Int))).1 (rd zAccount x2 x4).1), ((rd zAccount x2 x4), ()))))))))))) none) (iAccountsOk_D8 (x1, (x2, (x3, (x4, (x4, ((igt x4 (0 : Int)), (false, (false, ((rd zAccount x2 x4), ())))))))))))) none) (some ((true, ()), ())) := (FnD.eqC V iAccountsOk_c iAccountsOk_F 4 (x1, (x2, (x3, (x4, ()))))).trans (by kernel_rfl)
theorem iAccountsOk_k : CallsOk Try.prog gls gvs 45 iAccountsOk_g := FnD.ok (F := iAccountsOk_F) (cs := iAccountsOk_c) V_ok (kC iPairsOk_k kN) Try.func45 (by decide) (by kernel_rfl)
-- impl.ChainOk
noncomputable def iChainOk_F : FnD := { f := 17, fn := Try.f17, ps := [pa TChain], rs := [rt .bool] }
noncomputable def iChainOk_c : List (Nat × Sig) := [(45, iAccountsOk_g)]
noncomputable def iChainOk_d : tChain × Unit → Option ((Bool × Unit) × Unit) := iChainOk_F.d V iChainOk_c
noncomputable abbrev iChainOk_g : Sig := iChainOk_F.t.sig iChainOk_d
theorem iChainOk_b (x1 : tChain) : iChainOk_d (x1, ()) = cnd (ige x1.1 (0 : Int)) (cnd (ile x1.1 (99 : Int)) (bnd (iAccountsOk_d (x1.2.1, ())) (fun r1 => (some ((r1.1.1, ()), ())))) (some ((false, ()), ()))) (some ((false, ()), ())) := (FnD.eq V iChainOk_c iChainOk_F (x1, ())).trans (by kernel_rfl)
theorem iChainOk_k : CallsOk Try.prog gls gvs 17 iChainOk_g := FnD.ok (F := iChainOk_F) (cs := iChainOk_c) V_ok (kC iAccountsOk_k kN) Try.func17 (by decide) (by kernel_rfl)
-- laws.eqPair
noncomputable def wEqPair_F : FnD := { f := 99, fn := Try.f99, ps := [pa TPair, pa TPair], rs := [rt .bool] }
noncomputable def wEqPair_c : List (Nat × Sig) := []
noncomputable def wEqPair_d : tPair × tPair × Unit → Option ((Bool × Unit) × Unit) := wEqPair_F.d V wEqPair_c
noncomputable abbrev wEqPair_g : Sig := wEqPair_F.t.sig wEqPair_d
theorem wEqPair_b (x1 : tPair) (x2 : tPair) : wEqPair_d (x1, (x2, ())) = cnd (sne x1.1 x2.1) (some ((false, ()), ())) (cnd (sne x1.2.1 x2.2.1) (some ((false, ()), ())) (some ((true, ()), ()))) := (FnD.eq V wEqPair_c wEqPair_F (x1, (x2, ()))).trans (by kernel_rfl)
theorem wEqPair_k : CallsOk Try.prog gls gvs 99 wEqPair_g := FnD.ok (F := wEqPair_F) (cs := wEqPair_c) V_ok kN Try.func99 (by decide) (by kernel_rfl)
-- laws.eqPairS
noncomputable def wEqPairS_F : FnD := { f := 77, fn := Try.f77, ps := [pa (.sl TPair), pa (.sl TPair)], rs := [rt .bool], cuts := [(4, [.val 0 (.sl TPair) .sh, .val 1 (.sl TPair) .sh, .val 5 (.int .i64) .sh])] }
noncomputable def wEqPairS_c : List (Nat × Sig) := [(99, wEqPair_g)]
noncomputable def wEqPairS_d : (List tPair) × (List tPair) × Unit → Option ((Bool × Unit) × Unit) := wEqPairS_F.d V wEqPairS_c
noncomputable abbrev wEqPairS_g : Sig := wEqPairS_F.t.sig wEqPairS_d
noncomputable def wEqPairS_D4 : (List tPair) × (List tPair) × Int × Unit → Option ((Bool × Unit) × Unit) := wEqPairS_F.D V wEqPairS_c 4
theorem wEqPairS_b (x1 : (List tPair)) (x2 : (List tPair)) : wEqPairS_d (x1, (x2, ())) = cnd (ine (len x1) (len x2)) (some ((false, ()), ())) (wEqPairS_D4 (x1, (x2, ((0 : Int), ())))) := (FnD.eq V wEqPairS_c wEqPairS_F (x1, (x2, ()))).trans (by kernel_rfl)
theorem wEqPairS_q4 (x1 : (List tPair)) (x2 : (List tPair)) (x3 : Int) : wEqPairS_D4 (x1, (x2, (x3, ()))) = cnd (ilt x3 (len x1)) (cnd (inb x3 (len x1)) (cnd (inb x3 (len x2)) (bnd (wEqPair_d ((rd zPair x1 x3), ((rd zPair x2 x3), ()))) (fun r3 => (cnd (bnot r3.1.1) (some ((false, ()), ())) (wEqPairS_D4 (x1, (x2, ((iadd .i64 x3 (1 : Int)), ()))))))) none) none) (some ((true, ()), ())) := (FnD.eqC V wEqPairS_c wEqPairS_F 4 (x1, (x2, (x3, ())))).trans (by kernel_rfl)
theorem wEqPairS_k : CallsOk Try.prog gls gvs 77 wEqPairS_g := FnD.ok (F := wEqPairS_F) (cs := wEqPairS_c) V_ok (kC wEqPair_k kN) Try.func77 (by decide) (by kernel_rfl)
-- laws.eqAccount
noncomputable def wEqAccount_F : FnD := { f := 47, fn := Try.f47, ps := [pa TAccount, pa TAccount], rs := [rt .bool] }
noncomputable def wEqAccount_c : List (Nat × Sig) := [(77, wEqPairS_g)]
noncomputable def wEqAccount_d : tAccount × tAccount × Unit → Option ((Bool × Unit) × Unit) := wEqAccount_F.d V wEqAccount_c
noncomputable abbrev wEqAccount_g : Sig := wEqAccount_F.t.sig wEqAccount_d
theorem wEqAccount_b (x1 : tAccount) (x2 : tAccount) : wEqAccount_d (x1, (x2, ())) = cnd (sne x1.1 x2.1) (some ((false, ()), ())) (cnd (ine x1.2.1 x2.2.1) (some ((false, ()), ())) (cnd (ine x1.2.2.1 x2.2.2.1) (some ((false, ()), ())) (bnd (wEqPairS_d (x1.2.2.2.1, (x2.2.2.2.1, ()))) (fun r2 => (cnd (bnot r2.1.1) (some ((false, ()), ())) (some ((true, ()), ()))))))) := (FnD.eq V wEqAccount_c wEqAccount_F (x1, (x2, ()))).trans (by kernel_rfl)
theorem wEqAccount_k : CallsOk Try.prog gls gvs 47 wEqAccount_g := FnD.ok (F := wEqAccount_F) (cs := wEqAccount_c) V_ok (kC wEqPairS_k kN) Try.func47 (by decide) (by kernel_rfl)
-- laws.eqAccountS
noncomputable def wEqAccountS_F : FnD := { f := 21, fn := Try.f21, ps := [pa (.sl TAccount), pa (.sl TAccount)], rs := [rt .bool], cuts := [(4, [.val 0 (.sl TAccount) .sh, .val 1 (.sl TAccount) .sh, .val 5 (.int .i64) .sh])] }
noncomputable def wEqAccountS_c : List (Nat × Sig) := [(47, wEqAccount_g)]
noncomputable def wEqAccountS_d : (List tAccount) × (List tAccount) × Unit → Option ((Bool × Unit) × Unit) := wEqAccountS_F.d V wEqAccountS_c
noncomputable abbrev wEqAccountS_g : Sig := wEqAccountS_F.t.sig wEqAccountS_d
noncomputable def wEqAccountS_D4 : (List tAccount) × (List tAccount) × Int × Unit → Option ((Bool × Unit) × Unit) := wEqAccountS_F.D V wEqAccountS_c 4
theorem wEqAccountS_b (x1 : (List tAccount)) (x2 : (List tAccount)) : wEqAccountS_d (x1, (x2, ())) = cnd (ine (len x1) (len x2)) (some ((false, ()), ())) (wEqAccountS_D4 (x1, (x2, ((0 : Int), ())))) := (FnD.eq V wEqAccountS_c wEqAccountS_F (x1, (x2, ()))).trans (by kernel_rfl)
theorem wEqAccountS_q4 (x1 : (List tAccount)) (x2 : (List tAccount)) (x3 : Int) : wEqAccountS_D4 (x1, (x2, (x3, ()))) = cnd (ilt x3 (len x1)) (cnd (inb x3 (len x1)) (cnd (inb x3 (len x2)) (bnd (wEqAccount_d ((rd zAccount x1 x3), ((rd zAccount x2 x3), ()))) (fun r3 => (cnd (bnot r3.1.1) (some ((false, ()), ())) (wEqAccountS_D4 (x1, (x2, ((iadd .i64 x3 (1 : Int)), ()))))))) none) none) (some ((true, ()), ())) := (FnD.eqC V wEqAccountS_c wEqAccountS_F 4 (x1, (x2, (x3, ())))).trans (by kernel_rfl)
theorem wEqAccountS_k : CallsOk Try.prog gls gvs 21 wEqAccountS_g := FnD.ok (F := wEqAccountS_F) (cs := wEqAccountS_c) V_ok (kC wEqAccount_k kN) Try.func21 (by decide) (by kernel_rfl)
-- laws.eqChain
noncomputable def wEqChain_F : FnD := { f := 18, fn := Try.f18, ps := [pa TChain, pa TChain], rs := [rt .bool] }
noncomputable def wEqChain_c : List (Nat × Sig) := [(21, wEqAccountS_g)]
noncomputable def wEqChain_d : tChain × tChain × Unit → Option ((Bool × Unit) × Unit) := wEqChain_F.d V wEqChain_c
noncomputable abbrev wEqChain_g : Sig := wEqChain_F.t.sig wEqChain_d
theorem wEqChain_b (x1 : tChain) (x2 : tChain) : wEqChain_d (x1, (x2, ())) = cnd (ine x1.1 x2.1) (some ((false, ()), ())) (bnd (wEqAccountS_d (x1.2.1, (x2.2.1, ()))) (fun r2 => (cnd (bnot r2.1.1) (some ((false, ()), ())) (some ((true, ()), ()))))) := (FnD.eq V wEqChain_c wEqChain_F (x1, (x2, ()))).trans (by kernel_rfl)
theorem wEqChain_k : CallsOk Try.prog gls gvs 18 wEqChain_g := FnD.ok (F := wEqChain_F) (cs := wEqChain_c) V_ok (kC wEqAccountS_k kN) Try.func18 (by decide) (by kernel_rfl)
-- laws.FnExactChainOk
noncomputable def wFnExactChainOk_F : FnD := { f := 4, fn := Try.f4, ps := [pa TChain], rs := [rt .bool] }
noncomputable def wFnExactChainOk_c : List (Nat × Sig) := [(14, wSzChain_g), (16, wToChain_g), (15, sChainOk_g), (17, iChainOk_g), (18, wEqChain_g)]
noncomputable def wFnExactChainOk_d : tChain × Unit → Option ((Bool × Unit) × Unit) := wFnExactChainOk_F.d V wFnExactChainOk_c
noncomputable abbrev wFnExactChainOk_g : Sig := wFnExactChainOk_F.t.sig wFnExactChainOk_d
theorem wFnExactChainOk_b (x1 : tChain) : wFnExactChainOk_d (x1, ()) = bnd (wSzChain_d (x1, ((1048576 : Int), ()))) (fun r1 => (cnd (ilt r1.1.1 (0 : Int)) (some ((true, ()), ())) (bnd (wToChain_d (x1, ())) (fun r2 => (bnd (sChainOk_d (r2.1.1, ())) (fun r3 => (bnd (wToChain_d (x1, ())) (fun r4 => (bnd (iChainOk_d (r4.1.1, ())) (fun r5 => (cnd (bneB r5.1.1 r3.1.1) (some ((false, ()), ())) (bnd (wToChain_d (x1, ())) (fun r6 => (bnd (wEqChain_d (r4.1.1, (r6.1.1, ()))) (fun r7 => (cnd (bnot r7.1.1) (some ((false, ()), ())) (some ((true, ()), ())))))))))))))))))) := (FnD.eq V wFnExactChainOk_c wFnExactChainOk_F (x1, ())).trans (by kernel_rfl)
theorem wFnExactChainOk_k : CallsOk Try.prog gls gvs 4 wFnExactChainOk_g := FnD.ok (F := wFnExactChainOk_F) (cs := wFnExactChainOk_c) V_ok (kC wSzChain_k (kC wToChain_k (kC sChainOk_k (kC iChainOk_k (kC wEqChain_k kN))))) Try.func4 (by decide) (by kernel_rfl)
-- spec.ChainAccounts
noncomputable def sChainAccounts_F : FnD := { f := 19, fn := Try.f19, ps := [pa TChain, pa (.int .i64)], rs := [⟨(.sl TAccount), (.own 0 (.pr .sh (.pr .sh (.pr .sh (.pr (.own 0 .sh) .sh))))), false⟩], cuts := [(3, [.val 1 (.int .i64) .sh, .val 5 (.sl TAccount) (.own 0 (.pr .sh (.pr .sh (.pr .sh (.pr (.own 0 .sh) .sh))))), .val 6 (.int .i64) .sh, .box 2 TChain .sh, .ptr 2 2 0])] }
noncomputable def sChainAccounts_c : List (Nat × Sig) := []
noncomputable def sChainAccounts_d : tChain × Int × Unit → Option (((List tAccount) × Unit) × Unit) := sChainAccounts_F.d V sChainAccounts_c
noncomputable abbrev sChainAccounts_g : Sig := sChainAccounts_F.t.sig sChainAccounts_d
noncomputable def sChainAccounts_D3 : Int × (List tAccount) × Int × tChain × Unit → Option (((List tAccount) × Unit) × Unit) := sChainAccounts_F.D V sChainAccounts_c 3
theorem sChainAccounts_b (x1 : tChain) (x2 : Int) : sChainAccounts_d (x1, (x2, ())) = sChainAccounts_D3 (x2, (([] : List tAccount), ((0 : Int), (x1, ())))) := (FnD.eq V sChainAccounts_c sChainAccounts_F (x1, (x2, ()))).trans (by kernel_rfl)
theorem sChainAccounts_q3 (x1 : Int) (x2 : (List tAccount)) (x3 : Int) (x4 : tChain) : sChainAccounts_D3 (x1, (x2, (x3, (x4, ())))) = cnd (ilt x3 (len x4.2.1)) (cnd (inb x3 (len x4.2.1)) (cnd (fits ((len ([] : List tPair)) + (len (rd zAccount x4.2.1 x3).2.2.2.1)) 2) (cnd (igt x1 (0 : Int)) (cnd (igt (rd zAccount x4.2.1 x3).2.1 (0 : Int)) (cnd (igt x1 (isub .i64 (1000 : Int) (rd zAccount x4.2.1 x3).2.1)) (cnd (fits ((len x2) + (len (((rd zAccount x4.2.1 x3).1, ((1000 : Int), ((rd zAccount x4.2.1 x3).2.2.1, ((app ([] : List tPair) (rd zAccount x4.2.1 x3).2.2.2.1), (rd zAccount x4.2.1 x3).2.2.2.2)))) :: ([] : List tAccount)))) 4) (sChainAccounts_D3 (x1, ((app x2 (((rd zAccount x4.2.1 x3).1, ((1000 : Int), ((rd zAccount x4.2.1 x3).2.2.1, ((app ([] : List tPair) (rd zAccount x4.2.1 x3).2.2.2.1), (rd zAccount x4.2.1 x3).2.2.2.2)))) :: ([] : List tAccount))), ((iadd .i64 x3 (1 : Int)), (x4, ()))))) none) (cnd (fits ((len x2) + (len (((rd zAccount x4.2.1 x3).1, ((imin (iadd .i64 (rd zAccount x4.2.1 x3).2.1 x1) (1000 : Int)), ((rd zAccount x4.2.1 x3).2.2.1, ((app ([] : List tPair) (rd zAccount x4.2.1 x3).2.2.2.1), (rd zAccount x4.2.1 x3).2.2.2.2)))) :: ([] : List tAccount)))) 4) (sChainAccounts_D3 (x1, ((app x2 (((rd zAccount x4.2.1 x3).1, ((imin (iadd .i64 (rd zAccount x4.2.1 x3).2.1 x1) (1000 : Int)), ((rd zAccount x4.2.1 x3).2.2.1, ((app ([] : List tPair) (rd zAccount x4.2.1 x3).2.2.2.1), (rd zAccount x4.2.1 x3).2.2.2.2)))) :: ([] : List tAccount))), ((iadd .i64 x3 (1 : Int)), (x4, ()))))) none)) (cnd (fits ((len x2) + (len (((rd zAccount x4.2.1 x3).1, ((imin (iadd .i64 (rd zAccount x4.2.1 x3).2.1 x1) (1000 : Int)), ((rd zAccount x4.2.1 x3).2.2.1, ((app ([] : List tPair) (rd zAccount x4.2.1 x3).2.2.2.1), (rd zAccount x4.2.1 x3).2.2.2.2)))) :: ([] : List tAccount)))) 4) (sChainAccounts_D3 (x1, ((app x2 (((rd zAccount x4.2.1 x3).1, ((imin (iadd .i64 (rd zAccount x4.2.1 x3).2.1 x1) (1000 : Int)), ((rd zAccount x4.2.1 x3).2.2.1, ((app ([] : List tPair) (rd zAccount x4.2.1 x3).2.2.2.1), (rd zAccount x4.2.1 x3).2.2.2.2)))) :: ([] : List tAccount))), ((iadd .i64 x3 (1 : Int)), (x4, ()))))) none)) (cnd (fits ((len x2) + (len (((rd zAccount x4.2.1 x3).1, ((rd zAccount x4.2.1 x3).2.1, ((rd zAccount x4.2.1 x3).2.2.1, ((app ([] : List tPair) (rd zAccount x4.2.1 x3).2.2.2.1), (rd zAccount x4.2.1 x3).2.2.2.2)))) :: ([] : List tAccount)))) 4) (sChainAccounts_D3 (x1, ((app x2 (((rd zAccount x4.2.1 x3).1, ((rd zAccount x4.2.1 x3).2.1, ((rd zAccount x4.2.1 x3).2.2.1, ((app ([] : List tPair) (rd zAccount x4.2.1 x3).2.2.2.1), (rd zAccount x4.2.1 x3).2.2.2.2)))) :: ([] : List tAccount))), ((iadd .i64 x3 (1 : Int)), (x4, ()))))) none)) none) none) (some ((x2, ()), ())) := (FnD.eqC V sChainAccounts_c sChainAccounts_F 3 (x1, (x2, (x3, (x4, ()))))).trans (by kernel_rfl)
theorem sChainAccounts_k : CallsOk Try.prog gls gvs 19 sChainAccounts_g := FnD.ok (F := sChainAccounts_F) (cs := sChainAccounts_c) V_ok kN Try.func19 (by decide) (by kernel_rfl)
-- slices.Clone[[]impl.Pair,impl.Pair]
noncomputable def g_slices_Clone_impl_Pair_impl_Pair_F : FnD := { f := 76, fn := Try.f76, ps := [pa (.sl TPair)], rs := [⟨(.sl TPair), (.own 0 .sh), false⟩] }
noncomputable def g_slices_Clone_impl_Pair_impl_Pair_c : List (Nat × Sig) := []
noncomputable def g_slices_Clone_impl_Pair_impl_Pair_d : (List tPair) × Unit → Option (((List tPair) × Unit) × Unit) := g_slices_Clone_impl_Pair_impl_Pair_F.d V g_slices_Clone_impl_Pair_impl_Pair_c
noncomputable abbrev g_slices_Clone_impl_Pair_impl_Pair_g : Sig := g_slices_Clone_impl_Pair_impl_Pair_F.t.sig g_slices_Clone_impl_Pair_impl_Pair_d
theorem g_slices_Clone_impl_Pair_impl_Pair_b (x1 : (List tPair)) : g_slices_Clone_impl_Pair_impl_Pair_d (x1, ()) = cnd (ieq (len x1) (0 : Int)) (agree (some ((([] : List tPair), ()), ())) (cnd (fits ((len ([] : List tPair)) + (len x1)) 2) (some (((app ([] : List tPair) x1), ()), ())) none)) (cnd (fits ((len ([] : List tPair)) + (len x1)) 2) (some (((app ([] : List tPair) x1), ()), ())) none) := (FnD.eq V g_slices_Clone_impl_Pair_impl_Pair_c g_slices_Clone_impl_Pair_impl_Pair_F (x1, ())).trans (by kernel_rfl)
theorem g_slices_Clone_impl_Pair_impl_Pair_k : CallsOk Try.prog gls gvs 76 g_slices_Clone_impl_Pair_impl_Pair_g := FnD.ok (F := g_slices_Clone_impl_Pair_impl_Pair_F) (cs := g_slices_Clone_impl_Pair_impl_Pair_c) V_ok kN Try.func76 (by decide) (by kernel_rfl)
-- impl.copyAccounts
noncomputable def iCopyAccounts_F : FnD := { f := 46, fn := Try.f46, ps := [pa (.sl TAccount)], rs := [⟨(.sl TAccount), (.own 0 (.pr .sh (.pr .sh (.pr .sh (.pr (.own 0 .sh) .sh))))), false⟩], cuts := [(3, [.val 3 (.sl TAccount) (.own 0 (.pr .sh (.pr .sh (.pr .sh (.pr (.own 0 .sh) .sh))))), .val 6 (.sl TAccount) .sh, .val 7 (.int .i64) .sh, .val 8 (.int .i64) .sh])] }
noncomputable def iCopyAccounts_c : List (Nat × Sig) := [(76, g_slices_Clone_impl_Pair_impl_Pair_g)]
noncomputable def iCopyAccounts_d : (List tAccount) × Unit → Option (((List tAccount) × Unit) × Unit) := iCopyAccounts_F.d V iCopyAccounts_c
noncomputable abbrev iCopyAccounts_g : Sig := iCopyAccounts_F.t.sig iCopyAccounts_d
noncomputable def iCopyAccounts_D3 : (List tAccount) × (List tAccount) × Int × Int × Unit → Option (((List tAccount) × Unit) × Unit) := iCopyAccounts_F.D V iCopyAccounts_c 3
theorem iCopyAccounts_b (x1 : (List tAccount)) : iCopyAccounts_d (x1, ()) = iCopyAccounts_D3 (([] : List tAccount), (x1, ((len x1), ((0 : Int), ())))) := (FnD.eq V iCopyAccounts_c iCopyAccounts_F (x1, ())).trans (by kernel_rfl)
theorem iCopyAccounts_q3 (x1 : (List tAccount)) (x2 : (List tAccount)) (x3 : Int) (x4 : Int) : iCopyAccounts_D3 (x1, (x2, (x3, (x4, ())))) = cnd (ilt x4 x3) (cnd (inb x4 (len x2)) (bnd (g_slices_Clone_impl_Pair_impl_Pair_d ((rd zAccount x2 x4).2.2.2.1, ())) (fun r4 => (cnd (fits ((len x1) + (len (((rd zAccount x2 x4).1, ((rd zAccount x2 x4).2.1, ((rd zAccount x2 x4).2.2.1, (r4.1.1, (rd zAccount x2 x4).2.2.2.2)))) :: ([] : List tAccount)))) 4) (iCopyAccounts_D3 ((app x1 (((rd zAccount x2 x4).1, ((rd zAccount x2 x4).2.1, ((rd zAccount x2 x4).2.2.1, (r4.1.1, (rd zAccount x2 x4).2.2.2.2)))) :: ([] : List tAccount))), (x2, (x3, ((iadd .i64 x4 (1 : Int)), ()))))) none))) none) (some ((x1, ()), ())) := (FnD.eqC V iCopyAccounts_c iCopyAccounts_F 3 (x1, (x2, (x3, (x4, ()))))).trans (by kernel_rfl)
theorem iCopyAccounts_k : CallsOk Try.prog gls gvs 46 iCopyAccounts_g := FnD.ok (F := iCopyAccounts_F) (cs := iCopyAccounts_c) V_ok (kC g_slices_Clone_impl_Pair_impl_Pair_k kN) Try.func46 (by decide) (by kernel_rfl)
-- impl.ChainAccounts
noncomputable def iChainAccounts_F : FnD := { f := 20, fn := Try.f20, ps := [pa TChain, pa (.int .i64)], rs := [⟨(.sl TAccount), (.own 0 (.pr .sh (.pr .sh (.pr .sh (.pr (.own 0 .sh) .sh))))), false⟩], cuts := [(5, [.val 1 (.int .i64) .sh, .val 5 (.sl TAccount) (.own 0 (.pr .sh (.pr .sh (.pr .sh (.pr (.own 0 .sh) .sh))))), .val 15 (.int .i64) .sh, .val 16 (.int .i64) .sh])] }
noncomputable def iChainAccounts_c : List (Nat × Sig) := [(46, iCopyAccounts_g)]
noncomputable def iChainAccounts_d : tChain × Int × Unit → Option (((List tAccount) × Unit) × Unit) := iChainAccounts_F.d V iChainAccounts_c
noncomputable abbrev iChainAccounts_g : Sig := iChainAccounts_F.t.sig iChainAccounts_d
noncomputable def iChainAccounts_D5 : Int × (List tAccount) × Int × Int × Unit → Option (((List tAccount) × Unit) × Unit) := iChainAccounts_F.D V iChainAccounts_c 5
theorem iChainAccounts_b (x1 : tChain) (x2 : Int) : iChainAccounts_d (x1, (x2, ())) = bnd (iCopyAccounts_d (x1.2.1, ())) (fun r2 => (cnd (ilt x2 (1 : Int)) (some ((r2.1.1, ()), ())) (iChainAccounts_D5 (x2, (r2.1.1, ((len r2.1.1), ((0 : Int), ()))))))) := (FnD.eq V iChainAccounts_c iChainAccounts_F (x1, (x2, ()))).trans (by kernel_rfl)
theorem iChainAccounts_q5 (x1 : Int) (x2 : (List tAccount)) (x3 : Int) (x4 : Int) : iChainAccounts_D5 (x1, (x2, (x3, (x4, ())))) = cnd (ilt x4 x3) (cnd (inb x4 (len x2)) (cnd (ige (rd zAccount x2 x4).2.1 (0 : Int)) (cnd (igt x1 (isub .i64 (1000 : Int) (imin (rd zAccount x2 x4).2.1 (1000 : Int)))) (iChainAccounts_D5 (x1, ((upd x2 x4 ((rd zAccount x2 x4).1, ((1000 : Int), (rd zAccount x2 x4).2.2))), (x3, ((iadd .i64 x4 (1 : Int)), ()))))) (iChainAccounts_D5 (x1, ((upd x2 x4 ((rd zAccount x2 x4).1, ((imin (iadd .i64 (rd zAccount x2 x4).2.1 x1) (1000 : Int)), (rd zAccount x2 x4).2.2))), (x3, ((iadd .i64 x4 (1 : Int)), ())))))) (iChainAccounts_D5 (x1, ((upd x2 x4 ((rd zAccount x2 x4).1, ((imin (iadd .i64 (rd zAccount x2 x4).2.1 x1) (1000 : Int)), (rd zAccount x2 x4).2.2))), (x3, ((iadd .i64 x4 (1 : Int)), ())))))) none) (some ((x2, ()), ())) := (FnD.eqC V iChainAccounts_c iChainAccounts_F 5 (x1, (x2, (x3, (x4, ()))))).trans (by kernel_rfl)
theorem iChainAccounts_k : CallsOk Try.prog gls gvs 20 iChainAccounts_g := FnD.ok (F := iChainAccounts_F) (cs := iChainAccounts_c) V_ok (kC iCopyAccounts_k kN) Try.func20 (by decide) (by kernel_rfl)
-- laws.markText
noncomputable def wMarkText_F : FnD := { f := 48, fn := Try.f48, ps := [pa (.int .i64)], rs := [rt .str], cuts := [(4, [.val 0 (.int .i64) .sh, .val 3 .str .sh])] }
noncomputable def wMarkText_c : List (Nat × Sig) := []
noncomputable def wMarkText_d : Int × Unit → Option ((ByteArray × Unit) × Unit) := wMarkText_F.d V wMarkText_c
noncomputable abbrev wMarkText_g : Sig := wMarkText_F.t.sig wMarkText_d
noncomputable def wMarkText_D4 : Int × ByteArray × Unit → Option ((ByteArray × Unit) × Unit) := wMarkText_F.D V wMarkText_c 4
theorem wMarkText_b (x1 : Int) : wMarkText_d (x1, ()) = cnd (ile x1 (0 : Int)) (some (((bs [109, 48]), ()), ())) (wMarkText_D4 (x1, ((bs []), ()))) := (FnD.eq V wMarkText_c wMarkText_F (x1, ())).trans (by kernel_rfl)
theorem wMarkText_q4 (x1 : Int) (x2 : ByteArray) : wMarkText_D4 (x1, (x2, ())) = cnd (igt x1 (0 : Int)) (cnd (nz (10 : Int)) (cnd (fits ((ssz (sof ((iconv .u8 (iadd .i64 (48 : Int) (irem x1 (10 : Int)))) :: ([] : List Int)))) + (ssz x2)) 1) (cnd (nz (10 : Int)) (wMarkText_D4 ((iquo .i64 x1 (10 : Int)), ((scat (sof ((iconv .u8 (iadd .i64 (48 : Int) (irem x1 (10 : Int)))) :: ([] : List Int))) x2), ()))) none) none) none) (cnd (fits ((ssz (bs [109])) + (ssz x2)) 1) (some (((scat (bs [109]) x2), ()), ())) none) := (FnD.eqC V wMarkText_c wMarkText_F 4 (x1, (x2, ()))).trans (by kernel_rfl)
theorem wMarkText_k : CallsOk Try.prog gls gvs 48 wMarkText_g := FnD.ok (F := wMarkText_F) (cs := wMarkText_c) V_ok kN Try.func48 (by decide) (by kernel_rfl)
-- laws.markPairS
noncomputable def wMarkPairS_F : FnD := { f := 49, fn := Try.f49, ps := [⟨(.sl TPair), (.own 1 .sh), true, false, none⟩, pa (.int .i64)], rs := [rt (.int .i64)], cuts := [(2, [.val 0 (.sl TPair) (.own 1 .sh), .val 1 (.int .i64) .sh, .val 5 (.int .i64) .sh])] }
noncomputable def wMarkPairS_c : List (Nat × Sig) := [(48, wMarkText_g)]
noncomputable def wMarkPairS_d : (List tPair) × Int × Unit → Option ((Int × Unit) × (List tPair) × Unit) := wMarkPairS_F.d V wMarkPairS_c
noncomputable abbrev wMarkPairS_g : Sig := wMarkPairS_F.t.sig wMarkPairS_d
noncomputable def wMarkPairS_D2 : (List tPair) × Int × Int × Unit → Option ((Int × Unit) × (List tPair) × Unit) := wMarkPairS_F.D V wMarkPairS_c 2
theorem wMarkPairS_b (x1 : (List tPair)) (x2 : Int) : wMarkPairS_d (x1, (x2, ())) = wMarkPairS_D2 (x1, (x2, ((0 : Int), ()))) := (FnD.eq V wMarkPairS_c wMarkPairS_F (x1, (x2, ()))).trans (by kernel_rfl)
theorem wMarkPairS_q2 (x1 : (List tPair)) (x2 : Int) (x3 : Int) : wMarkPairS_D2 (x1, (x2, (x3, ()))) = cnd (ilt x3 (len x1)) (bnd (wMarkText_d (x2, ())) (fun r3 => (cnd (inb x3 (len x1)) (bnd (wMarkText_d ((iadd .i64 x2 (1 : Int)), ())) (fun r4 => (cnd (inb x3 (len (upd x1 x3 (r3.1.1, (rd zPair x1 x3).2)))) (wMarkPairS_D2 ((upd (upd x1 x3 (r3.1.1, (rd zPair x1 x3).2)) x3 ((rd zPair (upd x1 x3 (r3.1.1, (rd zPair x1 x3).2)) x3).1, (r4.1.1, (rd zPair (upd x1 x3 (r3.1.1, (rd zPair x1 x3).2)) x3).2.2))), ((iadd .i64 (iadd .i64 x2 (1 : Int)) (1 : Int)), ((iadd .i64 x3 (1 : Int)), ())))) none))) none))) (some ((x2, ()), (x1, ()))) := (FnD.eqC V wMarkPairS_c wMarkPairS_F 2 (x1, (x2, (x3, ())))).trans (by kernel_rfl)
theorem wMarkPairS_k : CallsOk Try.prog gls gvs 49 wMarkPairS_g := FnD.ok (F := wMarkPairS_F) (cs := wMarkPairS_c) V_ok (kC wMarkText_k kN) Try.func49 (by decide) (by kernel_rfl)
-- laws.markAccountS
noncomputable def wMarkAccountS_F : FnD := { f := 23, fn := Try.f23, ps := [⟨(.sl TAccount), (.own 1 (.pr .sh (.pr .sh (.pr .sh (.pr (.own 0 .sh) .sh))))), true, false, none⟩, pa (.int .i64)], rs := [rt (.int .i64)], cuts := [(2, [.val 0 (.sl TAccount) (.own 1 (.pr .sh (.pr .sh (.pr .sh (.pr (.own 0 .sh) .sh))))), .val 1 (.int .i64) .sh, .val 5 (.int .i64) .sh])] }
noncomputable def wMarkAccountS_c : List (Nat × Sig) := [(48, wMarkText_g), (49, wMarkPairS_g)]
noncomputable def wMarkAccountS_d : (List tAccount) × Int × Unit → Option ((Int × Unit) × (List tAccount) × Unit) := wMarkAccountS_F.d V wMarkAccountS_c
noncomputable abbrev wMarkAccountS_g : Sig := wMarkAccountS_F.t.sig wMarkAccountS_d
noncomputable def wMarkAccountS_D2 : (List tAccount) × Int × Int × Unit → Option ((Int × Unit) × (List tAccount) × Unit) := wMarkAccountS_F.D V wMarkAccountS_c 2
theorem wMarkAccountS_b (x1 : (List tAccount)) (x2 : Int) : wMarkAccountS_d (x1, (x2, ())) = wMarkAccountS_D2 (x1, (x2, ((0 : Int), ()))) := (FnD.eq V wMarkAccountS_c wMarkAccountS_F (x1, (x2, ()))).trans (by kernel_rfl)
theorem wMarkAccountS_q2 (x1 : (List tAccount)) (x2 : Int) (x3 : Int) : wMarkAccountS_D2 (x1, (x2, (x3, ()))) = cnd (ilt x3 (len x1)) (bnd (wMarkText_d (x2, ())) (fun r3 => (cnd (inb x3 (len x1)) (cnd (inb x3 (len (upd x1 x3 (r3.1.1, (rd zAccount x1 x3).2)))) (cnd (inb x3 (len (upd (upd x1 x3 (r3.1.1, (rd zAccount x1 x3).2)) x3 ((rd zAccount (upd x1 x3 (r3.1.1, (rd zAccount x1 x3).2)) x3).1, ((iadd .i64 x2 (1 : Int)), (rd zAccount (upd x1 x3 (r3.1.1, (rd zAccount x1 x3).2)) x3).2.2))))) (cnd (inb x3 (len (upd (upd (upd x1 x3 (r3.1.1, (rd zAccount x1 x3).2)) x3 ((rd zAccount (upd x1 x3 (r3.1.1, (rd zAccount x1 x3).2)) x3).1, ((iadd .i64 x2 (1 : Int)), (rd zAccount (upd x1 x3 (r3.1.1, (rd zAccount x1 x3).2)) x3).2.2))) x3 ((rd zAccount (upd (upd x1 x3 (r3.1.1, (rd zAccount x1 x3).2)) x3 ((rd zAccount (upd x1 x3 (r3.1.1, (rd zAccount x1 x3).2)) x3).1, ((iadd .i64 x2 (1 : Int)), (rd zAccount (upd x1 x3 (r3.1.1, (rd zAccount x1 x3).2)) x3).2.2))) x3).1, ((rd zAccount (upd (upd x1 x3 (r3.1.1, (rd zAccount x1 x3).2)) x3 ((rd zAccount (upd x1 x3 (r3.1.1, (rd zAccount x1 x3).2)) x3).1, ((iadd .i64 x2 (1 : Int)), (rd zAccount (upd x1 x3 (r3.1.1, (rd zAccount x1 x3).2)) x3).2.2))) x3).2.1, ((iadd .i64 (iadd .i64 x2 (1 : Int)) (1 : Int)), (rd zAccount (upd (upd x1 x3 (r3.1.1, (rd zAccount x1 x3).2)) x3 ((rd zAccount (upd x1 x3 (r3.1.1, (rd zAccount x1 x3).2)) x3).1, ((iadd .i64 x2 (1 : Int)), (rd zAccount (upd x1 x3 (r3.1.1, (rd zAccount x1 x3).2)) x3).2.2))) x3).2.2.2)))))) (bnd (wMarkPairS_d ((rd zAccount (upd (upd (upd x1 x3 (r3.1.1, (rd zAccount x1 x3).2)) x3 ((rd zAccount (upd x1 x3 (r3.1.1, (rd zAccount x1 x3).2)) x3).1, ((iadd .i64 x2 (1 : Int)), (rd zAccount (upd x1 x3 (r3.1.1, (rd zAccount x1 x3).2)) x3).2.2))) x3 ((rd zAccount (upd (upd x1 x3 (r3.1.1, (rd zAccount x1 x3).2)) x3 ((rd zAccount (upd x1 x3 (r3.1.1, (rd zAccount x1 x3).2)) x3).1, ((iadd .i64 x2 (1 : Int)), (rd zAccount (upd x1 x3 (r3.1.1, (rd zAccount x1 x3).2)) x3).2.2))) x3).1, ((rd zAccount (upd (upd x1 x3 (r3.1.1, (rd zAccount x1 x3).2)) x3 ((rd zAccount (upd x1 x3 (r3.1.1, (rd zAccount x1 x3).2)) x3).1, ((iadd .i64 x2 (1 : Int)), (rd zAccount (upd x1 x3 (r3.1.1, (rd zAccount x1 x3).2)) x3).2.2))) x3).2.1, ((iadd .i64 (iadd .i64 x2 (1 : Int)) (1 : Int)), (rd zAccount (upd (upd x1 x3 (r3.1.1, (rd zAccount x1 x3).2)) x3 ((rd zAccount (upd x1 x3 (r3.1.1, (rd zAccount x1 x3).2)) x3).1, ((iadd .i64 x2 (1 : Int)), (rd zAccount (upd x1 x3 (r3.1.1, (rd zAccount x1 x3).2)) x3).2.2))) x3).2.2.2)))) x3).2.2.2.1, ((iadd .i64 (iadd .i64 (iadd .i64 x2 (1 : Int)) (1 : Int)) (1 : Int)), ()))) (fun r4 => (wMarkAccountS_D2 ((upd (upd (upd (upd x1 x3 (r3.1.1, (rd zAccount x1 x3).2)) x3 ((rd zAccount (upd x1 x3 (r3.1.1, (rd zAccount x1 x3).2)) x3).1, ((iadd .i64 x2 (1 : Int)), (rd zAccount (upd x1 x3 (r3.1.1, (rd zAccount x1 x3).2)) x3).2.2))) x3 ((rd zAccount (upd (upd x1 x3 (r3.1.1, (rd zAccount x1 x3).2)) x3 ((rd zAccount (upd x1 x3 (r3.1.1, (rd zAccount x1 x3).2)) x3).1, ((iadd .i64 x2 (1 : Int)), (rd zAccount (upd x1 x3 (r3.1.1, (rd zAccount x1 x3).2)) x3).2.2))) x3).1, ((rd zAccount (upd (upd x1 x3 (r3.1.1, (rd zAccount x1 x3).2)) x3 ((rd zAccount (upd x1 x3 (r3.1.1, (rd zAccount x1 x3).2)) x3).1, ((iadd .i64 x2 (1 : Int)), (rd zAccount (upd x1 x3 (r3.1.1, (rd zAccount x1 x3).2)) x3).2.2))) x3).2.1, ((iadd .i64 (iadd .i64 x2 (1 : Int)) (1 : Int)), (rd zAccount (upd (upd x1 x3 (r3.1.1, (rd zAccount x1 x3).2)) x3 ((rd zAccount (upd x1 x3 (r3.1.1, (rd zAccount x1 x3).2)) x3).1, ((iadd .i64 x2 (1 : Int)), (rd zAccount (upd x1 x3 (r3.1.1, (rd zAccount x1 x3).2)) x3).2.2))) x3).2.2.2)))) x3 ((rd zAccount (upd (upd (upd x1 x3 (r3.1.1, (rd zAccount x1 x3).2)) x3 ((rd zAccount (upd x1 x3 (r3.1.1, (rd zAccount x1 x3).2)) x3).1, ((iadd .i64 x2 (1 : Int)), (rd zAccount (upd x1 x3 (r3.1.1, (rd zAccount x1 x3).2)) x3).2.2))) x3 ((rd zAccount (upd (upd x1 x3 (r3.1.1, (rd zAccount x1 x3).2)) x3 ((rd zAccount (upd x1 x3 (r3.1.1, (rd zAccount x1 x3).2)) x3).1, ((iadd .i64 x2 (1 : Int)), (rd zAccount (upd x1 x3 (r3.1.1, (rd zAccount x1 x3).2)) x3).2.2))) x3).1, ((rd zAccount (upd (upd x1 x3 (r3.1.1, (rd zAccount x1 x3).2)) x3 ((rd zAccount (upd x1 x3 (r3.1.1, (rd zAccount x1 x3).2)) x3).1, ((iadd .i64 x2 (1 : Int)), (rd zAccount (upd x1 x3 (r3.1.1, (rd zAccount x1 x3).2)) x3).2.2))) x3).2.1, ((iadd .i64 (iadd .i64 x2 (1 : Int)) (1 : Int)), (rd zAccount (upd (upd x1 x3 (r3.1.1, (rd zAccount x1 x3).2)) x3 ((rd zAccount (upd x1 x3 (r3.1.1, (rd zAccount x1 x3).2)) x3).1, ((iadd .i64 x2 (1 : Int)), (rd zAccount (upd x1 x3 (r3.1.1, (rd zAccount x1 x3).2)) x3).2.2))) x3).2.2.2)))) x3).1, ((rd zAccount (upd (upd (upd x1 x3 (r3.1.1, (rd zAccount x1 x3).2)) x3 ((rd zAccount (upd x1 x3 (r3.1.1, (rd zAccount x1 x3).2)) x3).1, ((iadd .i64 x2 (1 : Int)), (rd zAccount (upd x1 x3 (r3.1.1, (rd zAccount x1 x3).2)) x3).2.2))) x3 ((rd zAccount (upd (upd x1 x3 (r3.1.1, (rd zAccount x1 x3).2)) x3 ((rd zAccount (upd x1 x3 (r3.1.1, (rd zAccount x1 x3).2)) x3).1, ((iadd .i64 x2 (1 : Int)), (rd zAccount (upd x1 x3 (r3.1.1, (rd zAccount x1 x3).2)) x3).2.2))) x3).1, ((rd zAccount (upd (upd x1 x3 (r3.1.1, (rd zAccount x1 x3).2)) x3 ((rd zAccount (upd x1 x3 (r3.1.1, (rd zAccount x1 x3).2)) x3).1, ((iadd .i64 x2 (1 : Int)), (rd zAccount (upd x1 x3 (r3.1.1, (rd zAccount x1 x3).2)) x3).2.2))) x3).2.1, ((iadd .i64 (iadd .i64 x2 (1 : Int)) (1 : Int)), (rd zAccount (upd (upd x1 x3 (r3.1.1, (rd zAccount x1 x3).2)) x3 ((rd zAccount (upd x1 x3 (r3.1.1, (rd zAccount x1 x3).2)) x3).1, ((iadd .i64 x2 (1 : Int)), (rd zAccount (upd x1 x3 (r3.1.1, (rd zAccount x1 x3).2)) x3).2.2))) x3).2.2.2)))) x3).2.1, ((rd zAccount (upd (upd (upd x1 x3 (r3.1.1, (rd zAccount x1 x3).2)) x3 ((rd zAccount (upd x1 x3 (r3.1.1, (rd zAccount x1 x3).2)) x3).1, ((iadd .i64 x2 (1 : Int)), (rd zAccount (upd x1 x3 (r3.1.1, (rd zAccount x1 x3).2)) x3).2.2))) x3 ((rd zAccount (upd (upd x1 x3 (r3.1.1, (rd zAccount x1 x3).2)) x3 ((rd zAccount (upd x1 x3 (r3.1.1, (rd zAccount x1 x3).2)) x3).1, ((iadd .i64 x2 (1 : Int)), (rd zAccount (upd x1 x3 (r3.1.1, (rd zAccount x1 x3).2)) x3).2.2))) x3).1, ((rd zAccount (upd (upd x1 x3 (r3.1.1, (rd zAccount x1 x3).2)) x3 ((rd zAccount (upd x1 x3 (r3.1.1, (rd zAccount x1 x3).2)) x3).1, ((iadd .i64 x2 (1 : Int)), (rd zAccount (upd x1 x3 (r3.1.1, (rd zAccount x1 x3).2)) x3).2.2))) x3).2.1, ((iadd .i64 (iadd .i64 x2 (1 : Int)) (1 : Int)), (rd zAccount (upd (upd x1 x3 (r3.1.1, (rd zAccount x1 x3).2)) x3 ((rd zAccount (upd x1 x3 (r3.1.1, (rd zAccount x1 x3).2)) x3).1, ((iadd .i64 x2 (1 : Int)), (rd zAccount (upd x1 x3 (r3.1.1, (rd zAccount x1 x3).2)) x3).2.2))) x3).2.2.2)))) x3).2.2.1, (r4.2.1, (rd zAccount (upd (upd (upd x1 x3 (r3.1.1, (rd zAccount x1 x3).2)) x3 ((rd zAccount (upd x1 x3 (r3.1.1, (rd zAccount x1 x3).2)) x3).1, ((iadd .i64 x2 (1 : Int)), (rd zAccount (upd x1 x3 (r3.1.1, (rd zAccount x1 x3).2)) x3).2.2))) x3 ((rd zAccount (upd (upd x1 x3 (r3.1.1, (rd zAccount x1 x3).2)) x3 ((rd zAccount (upd x1 x3 (r3.1.1, (rd zAccount x1 x3).2)) x3).1, ((iadd .i64 x2 (1 : Int)), (rd zAccount (upd x1 x3 (r3.1.1, (rd zAccount x1 x3).2)) x3).2.2))) x3).1, ((rd zAccount (upd (upd x1 x3 (r3.1.1, (rd zAccount x1 x3).2)) x3 ((rd zAccount (upd x1 x3 (r3.1.1, (rd zAccount x1 x3).2)) x3).1, ((iadd .i64 x2 (1 : Int)), (rd zAccount (upd x1 x3 (r3.1.1, (rd zAccount x1 x3).2)) x3).2.2))) x3).2.1, ((iadd .i64 (iadd .i64 x2 (1 : Int)) (1 : Int)), (rd zAccount (upd (upd x1 x3 (r3.1.1, (rd zAccount x1 x3).2)) x3 ((rd zAccount (upd x1 x3 (r3.1.1, (rd zAccount x1 x3).2)) x3).1, ((iadd .i64 x2 (1 : Int)), (rd zAccount (upd x1 x3 (r3.1.1, (rd zAccount x1 x3).2)) x3).2.2))) x3).2.2.2)))) x3).2.2.2.2))))), (r4.1.1, ((iadd .i64 x3 (1 : Int)), ())))))) none) none) none) none))) (some ((x2, ()), (x1, ()))) := (FnD.eqC V wMarkAccountS_c wMarkAccountS_F 2 (x1, (x2, (x3, ())))).trans (by kernel_rfl)
theorem wMarkAccountS_k : CallsOk Try.prog gls gvs 23 wMarkAccountS_g := FnD.ok (F := wMarkAccountS_F) (cs := wMarkAccountS_c) V_ok (kC wMarkText_k (kC wMarkPairS_k kN)) Try.func23 (by decide) (by kernel_rfl)
-- laws.markChain
noncomputable def wMarkChain_F : FnD := { f := 22, fn := Try.f22, ps := [⟨TChain, (.pr .sh (.pr (.own 1 (.pr .sh (.pr .sh (.pr .sh (.pr (.own 0 .sh) .sh))))) .sh)), true, false, some 2⟩, pa (.int .i64)], rs := [rt (.int .i64)] }
noncomputable def wMarkChain_c : List (Nat × Sig) := [(23, wMarkAccountS_g)]
noncomputable def wMarkChain_d : tChain × Int × Unit → Option ((Int × Unit) × tChain × Unit) := wMarkChain_F.d V wMarkChain_c
noncomputable abbrev wMarkChain_g : Sig := wMarkChain_F.t.sig wMarkChain_d
theorem wMarkChain_b (x1 : tChain) (x2 : Int) : wMarkChain_d (x1, (x2, ())) = bnd (wMarkAccountS_d (x1.2.1, (x2, ()))) (fun r2 => (some ((r2.1.1, ()), ((x1.1, (r2.2.1, x1.2.2)), ())))) := (FnD.eq V wMarkChain_c wMarkChain_F (x1, (x2, ()))).trans (by kernel_rfl)
theorem wMarkChain_k : CallsOk Try.prog gls gvs 22 wMarkChain_g := FnD.ok (F := wMarkChain_F) (cs := wMarkChain_c) V_ok (kC wMarkAccountS_k kN) Try.func22 (by decide) (by kernel_rfl)
-- laws.heldPairS
noncomputable def wHeldPairS_F : FnD := { f := 50, fn := Try.f50, ps := [pa (.sl TPair), pa (.int .i64)], rs := [rt (.int .i64)], cuts := [(2, [.val 0 (.sl TPair) .sh, .val 1 (.int .i64) .sh, .val 5 (.int .i64) .sh])] }
noncomputable def wHeldPairS_c : List (Nat × Sig) := [(48, wMarkText_g)]
noncomputable def wHeldPairS_d : (List tPair) × Int × Unit → Option ((Int × Unit) × Unit) := wHeldPairS_F.d V wHeldPairS_c
noncomputable abbrev wHeldPairS_g : Sig := wHeldPairS_F.t.sig wHeldPairS_d
noncomputable def wHeldPairS_D2 : (List tPair) × Int × Int × Unit → Option ((Int × Unit) × Unit) := wHeldPairS_F.D V wHeldPairS_c 2
theorem wHeldPairS_b (x1 : (List tPair)) (x2 : Int) : wHeldPairS_d (x1, (x2, ())) = wHeldPairS_D2 (x1, (x2, ((0 : Int), ()))) := (FnD.eq V wHeldPairS_c wHeldPairS_F (x1, (x2, ()))).trans (by kernel_rfl)
theorem wHeldPairS_q2 (x1 : (List tPair)) (x2 : Int) (x3 : Int) : wHeldPairS_D2 (x1, (x2, (x3, ()))) = cnd (ilt x3 (len x1)) (cnd (inb x3 (len x1)) (bnd (wMarkText_d (x2, ())) (fun r3 => (cnd (sne (rd zPair x1 x3).1 r3.1.1) (some (((-1 : Int), ()), ())) (cnd (inb x3 (len x1)) (bnd (wMarkText_d ((iadd .i64 x2 (1 : Int)), ())) (fun r4 => (cnd (sne (rd zPair x1 x3).2.1 r4.1.1) (some (((-1 : Int), ()), ())) (wHeldPairS_D2 (x1, ((iadd .i64 (iadd .i64 x2 (1 : Int)) (1 : Int)), ((iadd .i64 x3 (1 : Int)), ()))))))) none)))) none) (some ((x2, ()), ())) := (FnD.eqC V wHeldPairS_c wHeldPairS_F 2 (x1, (x2, (x3, ())))).trans (by kernel_rfl)
theorem wHeldPairS_k : CallsOk Try.prog gls gvs 50 wHeldPairS_g := FnD.ok (F := wHeldPairS_F) (cs := wHeldPairS_c) V_ok (kC wMarkText_k kN) Try.func50 (by decide) (by kernel_rfl)
-- laws.heldAccountS
noncomputable def wHeldAccountS_F : FnD := { f := 24, fn := Try.f24, ps := [pa (.sl TAccount), pa (.int .i64)], rs := [rt (.int .i64)], cuts := [(2, [.val 0 (.sl TAccount) .sh, .val 1 (.int .i64) .sh, .val 5 (.int .i64) .sh])] }
noncomputable def wHeldAccountS_c : List (Nat × Sig) := [(48, wMarkText_g), (50, wHeldPairS_g)]
noncomputable def wHeldAccountS_d : (List tAccount) × Int × Unit → Option ((Int × Unit) × Unit) := wHeldAccountS_F.d V wHeldAccountS_c
noncomputable abbrev wHeldAccountS_g : Sig := wHeldAccountS_F.t.sig wHeldAccountS_d
noncomputable def wHeldAccountS_D2 : (List tAccount) × Int × Int × Unit → Option ((Int × Unit) × Unit) := wHeldAccountS_F.D V wHeldAccountS_c 2
theorem wHeldAccountS_b (x1 : (List tAccount)) (x2 : Int) : wHeldAccountS_d (x1, (x2, ())) = wHeldAccountS_D2 (x1, (x2, ((0 : Int), ()))) := (FnD.eq V wHeldAccountS_c wHeldAccountS_F (x1, (x2, ()))).trans (by kernel_rfl)
theorem wHeldAccountS_q2 (x1 : (List tAccount)) (x2 : Int) (x3 : Int) : wHeldAccountS_D2 (x1, (x2, (x3, ()))) = cnd (ilt x3 (len x1)) (cnd (inb x3 (len x1)) (bnd (wMarkText_d (x2, ())) (fun r3 => (cnd (sne (rd zAccount x1 x3).1 r3.1.1) (some (((-1 : Int), ()), ())) (cnd (inb x3 (len x1)) (cnd (ine (rd zAccount x1 x3).2.1 (iadd .i64 x2 (1 : Int))) (some (((-1 : Int), ()), ())) (cnd (inb x3 (len x1)) (cnd (ine (rd zAccount x1 x3).2.2.1 (iadd .i64 (iadd .i64 x2 (1 : Int)) (1 : Int))) (some (((-1 : Int), ()), ())) (cnd (inb x3 (len x1)) (bnd (wHeldPairS_d ((rd zAccount x1 x3).2.2.2.1, ((iadd .i64 (iadd .i64 (iadd .i64 x2 (1 : Int)) (1 : Int)) (1 : Int)), ()))) (fun r4 => (cnd (ilt r4.1.1 (0 : Int)) (some (((-1 : Int), ()), ())) (wHeldAccountS_D2 (x1, (r4.1.1, ((iadd .i64 x3 (1 : Int)), ()))))))) none)) none)) none)))) none) (some ((x2, ()), ())) := (FnD.eqC V wHeldAccountS_c wHeldAccountS_F 2 (x1, (x2, (x3, ())))).trans (by kernel_rfl)
theorem wHeldAccountS_k : CallsOk Try.prog gls gvs 24 wHeldAccountS_g := FnD.ok (F := wHeldAccountS_F) (cs := wHeldAccountS_c) V_ok (kC wMarkText_k (kC wHeldPairS_k kN)) Try.func24 (by decide) (by kernel_rfl)
-- laws.FnExactChainAccounts
noncomputable def wFnExactChainAccounts_F : FnD := { f := 5, fn := Try.f5, ps := [pa TChain, pa (.int .i64)], rs := [rt .bool] }
noncomputable def wFnExactChainAccounts_c : List (Nat × Sig) := [(14, wSzChain_g), (16, wToChain_g), (19, sChainAccounts_g), (20, iChainAccounts_g), (21, wEqAccountS_g), (18, wEqChain_g), (22, wMarkChain_g), (23, wMarkAccountS_g), (24, wHeldAccountS_g)]
noncomputable def wFnExactChainAccounts_d : tChain × Int × Unit → Option ((Bool × Unit) × Unit) := wFnExactChainAccounts_F.d V wFnExactChainAccounts_c
noncomputable abbrev wFnExactChainAccounts_g : Sig := wFnExactChainAccounts_F.t.sig wFnExactChainAccounts_d
theorem wFnExactChainAccounts_b (x1 : tChain) (x2 : Int) : wFnExactChainAccounts_d (x1, (x2, ())) = bnd (wSzChain_d (x1, ((1048576 : Int), ()))) (fun r2 => (cnd (ilt r2.1.1 (0 : Int)) (some ((true, ()), ())) (bnd (wToChain_d (x1, ())) (fun r3 => (bnd (sChainAccounts_d (r3.1.1, (x2, ()))) (fun r4 => (bnd (wToChain_d (x1, ())) (fun r5 => (bnd (iChainAccounts_d (r5.1.1, (x2, ()))) (fun r6 => (bnd (wEqAccountS_d (r6.1.1, (r4.1.1, ()))) (fun r7 => (cnd (bnot r7.1.1) (some ((false, ()), ())) (bnd (wToChain_d (x1, ())) (fun r8 => (bnd (wEqChain_d (r5.1.1, (r8.1.1, ()))) (fun r9 => (cnd (bnot r9.1.1) (some ((false, ()), ())) (bnd (wMarkChain_d (r5.1.1, ((1 : Int), ()))) (fun r10 => (cnd (ilt r10.1.1 (0 : Int)) (some ((false, ()), ())) (bnd (wEqAccountS_d (r6.1.1, (r4.1.1, ()))) (fun r11 => (cnd (bnot r11.1.1) (some ((false, ()), ())) (bnd (wMarkAccountS_d (r6.1.1, ((1 : Int), ()))) (fun r12 => (bnd (wHeldAccountS_d (r12.2.1, ((1 : Int), ()))) (fun r13 => (cnd (ilt r13.1.1 (0 : Int)) (some ((false, ()), ())) (cnd (ine r13.1.1 r12.1.1) (some ((false, ()), ())) (bnd (wToChain_d (x1, ())) (fun r14 => (bnd (iChainAccounts_d (r14.1.1, (x2, ()))) (fun r15 => (bnd (wEqAccountS_d (r15.1.1, (r4.1.1, ()))) (fun r16 => (cnd (bnot r16.1.1) (some ((false, ()), ())) (bnd (wHeldAccountS_d (r12.2.1, ((1 : Int), ()))) (fun r17 => (cnd (ilt r17.1.1 (0 : Int)) (some ((false, ()), ())) (cnd (ine r17.1.1 r12.1.1) (some ((false, ()), ())) (some ((true, ()), ()))))))))))))))))))))))))))))))))))))))))))) := (FnD.eq V wFnExactChainAccounts_c wFnExactChainAccounts_F (x1, (x2, ()))).trans (by kernel_rfl)
theorem wFnExactChainAccounts_k : CallsOk Try.prog gls gvs 5 wFnExactChainAccounts_g := FnD.ok (F := wFnExactChainAccounts_F) (cs := wFnExactChainAccounts_c) V_ok (kC wSzChain_k (kC wToChain_k (kC sChainAccounts_k (kC iChainAccounts_k (kC wEqAccountS_k (kC wEqChain_k (kC wMarkChain_k (kC wMarkAccountS_k (kC wHeldAccountS_k kN))))))))) Try.func5 (by decide) (by kernel_rfl)
-- laws.szHead
noncomputable def wSzHead_F : FnD := { f := 78, fn := Try.f78, ps := [pa THead, pa (.int .i64)], rs := [rt (.int .i64)] }
noncomputable def wSzHead_c : List (Nat × Sig) := []
noncomputable def wSzHead_d : tHead × Int × Unit → Option ((Int × Unit) × Unit) := wSzHead_F.d V wSzHead_c
noncomputable abbrev wSzHead_g : Sig := wSzHead_F.t.sig wSzHead_d
theorem wSzHead_b (x1 : tHead) (x2 : Int) : wSzHead_d (x1, (x2, ())) = cnd (ilt (isub .i64 x2 (ssz x1.2.1)) (0 : Int)) (some (((-1 : Int), ()), ())) (cnd (ilt (isub .i64 (isub .i64 x2 (ssz x1.2.1)) (ssz x1.2.2.1)) (0 : Int)) (some (((-1 : Int), ()), ())) (cnd (ilt (isub .i64 (isub .i64 (isub .i64 x2 (ssz x1.2.1)) (ssz x1.2.2.1)) (ssz x1.2.2.2.1)) (0 : Int)) (some (((-1 : Int), ()), ())) (some (((isub .i64 (isub .i64 (isub .i64 x2 (ssz x1.2.1)) (ssz x1.2.2.1)) (ssz x1.2.2.2.1)), ()), ())))) := (FnD.eq V wSzHead_c wSzHead_F (x1, (x2, ()))).trans (by kernel_rfl)
theorem wSzHead_k : CallsOk Try.prog gls gvs 78 wSzHead_g := FnD.ok (F := wSzHead_F) (cs := wSzHead_c) V_ok kN Try.func78 (by decide) (by kernel_rfl)
-- laws.szPointS
noncomputable def wSzPointS_F : FnD := { f := 100, fn := Try.f100, ps := [pa (.sl TPoint), pa (.int .i64)], rs := [rt (.int .i64)] }
noncomputable def wSzPointS_c : List (Nat × Sig) := []
noncomputable def wSzPointS_d : (List tPoint) × Int × Unit → Option ((Int × Unit) × Unit) := wSzPointS_F.d V wSzPointS_c
noncomputable abbrev wSzPointS_g : Sig := wSzPointS_F.t.sig wSzPointS_d
theorem wSzPointS_b (x1 : (List tPoint)) (x2 : Int) : wSzPointS_d (x1, (x2, ())) = cnd (ilt (isub .i64 x2 (len x1)) (0 : Int)) (some (((-1 : Int), ()), ())) (some (((isub .i64 x2 (len x1)), ()), ())) := (FnD.eq V wSzPointS_c wSzPointS_F (x1, (x2, ()))).trans (by kernel_rfl)
theorem wSzPointS_k : CallsOk Try.prog gls gvs 100 wSzPointS_g := FnD.ok (F := wSzPointS_F) (cs := wSzPointS_c) V_ok kN Try.func100 (by decide) (by kernel_rfl)
-- laws.szCommittee
noncomputable def wSzCommittee_F : FnD := { f := 79, fn := Try.f79, ps := [pa TCommittee, pa (.int .i64)], rs := [rt (.int .i64)] }
noncomputable def wSzCommittee_c : List (Nat × Sig) := [(100, wSzPointS_g)]
noncomputable def wSzCommittee_d : tCommittee × Int × Unit → Option ((Int × Unit) × Unit) := wSzCommittee_F.d V wSzCommittee_c
noncomputable abbrev wSzCommittee_g : Sig := wSzCommittee_F.t.sig wSzCommittee_d
theorem wSzCommittee_b (x1 : tCommittee) (x2 : Int) : wSzCommittee_d (x1, (x2, ())) = bnd (wSzPointS_d (x1.1, (x2, ()))) (fun r2 => (cnd (ilt r2.1.1 (0 : Int)) (some (((-1 : Int), ()), ())) (some ((r2.1.1, ()), ())))) := (FnD.eq V wSzCommittee_c wSzCommittee_F (x1, (x2, ()))).trans (by kernel_rfl)
theorem wSzCommittee_k : CallsOk Try.prog gls gvs 79 wSzCommittee_g := FnD.ok (F := wSzCommittee_F) (cs := wSzCommittee_c) V_ok (kC wSzPointS_k kN) Try.func79 (by decide) (by kernel_rfl)
-- laws.szKeys
noncomputable def wSzKeys_F : FnD := { f := 80, fn := Try.f80, ps := [pa TKeys, pa (.int .i64)], rs := [rt (.int .i64)] }
noncomputable def wSzKeys_c : List (Nat × Sig) := [(100, wSzPointS_g)]
noncomputable def wSzKeys_d : tKeys × Int × Unit → Option ((Int × Unit) × Unit) := wSzKeys_F.d V wSzKeys_c
noncomputable abbrev wSzKeys_g : Sig := wSzKeys_F.t.sig wSzKeys_d
theorem wSzKeys_b (x1 : tKeys) (x2 : Int) : wSzKeys_d (x1, (x2, ())) = bnd (wSzPointS_d (x1.2.2.2.2.1, (x2, ()))) (fun r2 => (cnd (ilt r2.1.1 (0 : Int)) (some (((-1 : Int), ()), ())) (some ((r2.1.1, ()), ())))) := (FnD.eq V wSzKeys_c wSzKeys_F (x1, (x2, ()))).trans (by kernel_rfl)
theorem wSzKeys_k : CallsOk Try.prog gls gvs 80 wSzKeys_g := FnD.ok (F := wSzKeys_F) (cs := wSzKeys_c) V_ok (kC wSzPointS_k kN) Try.func80 (by decide) (by kernel_rfl)
-- laws.szClient
noncomputable def wSzClient_F : FnD := { f := 51, fn := Try.f51, ps := [pa TClient, pa (.int .i64)], rs := [rt (.int .i64)] }
noncomputable def wSzClient_c : List (Nat × Sig) := [(78, wSzHead_g), (79, wSzCommittee_g), (80, wSzKeys_g)]
noncomputable def wSzClient_d : tClient × Int × Unit → Option ((Int × Unit) × Unit) := wSzClient_F.d V wSzClient_c
noncomputable abbrev wSzClient_g : Sig := wSzClient_F.t.sig wSzClient_d
theorem wSzClient_b (x1 : tClient) (x2 : Int) : wSzClient_d (x1, (x2, ())) = bnd (wSzHead_d (x1.1, (x2, ()))) (fun r2 => (cnd (ilt r2.1.1 (0 : Int)) (some (((-1 : Int), ()), ())) (bnd (wSzCommittee_d (x1.2.1, (r2.1.1, ()))) (fun r3 => (cnd (ilt r3.1.1 (0 : Int)) (some (((-1 : Int), ()), ())) (bnd (wSzCommittee_d (x1.2.2.1, (r3.1.1, ()))) (fun r4 => (cnd (ilt r4.1.1 (0 : Int)) (some (((-1 : Int), ()), ())) (bnd (wSzKeys_d (x1.2.2.2.2.1, (r4.1.1, ()))) (fun r5 => (cnd (ilt r5.1.1 (0 : Int)) (some (((-1 : Int), ()), ())) (some ((r5.1.1, ()), ()))))))))))))) := (FnD.eq V wSzClient_c wSzClient_F (x1, (x2, ()))).trans (by kernel_rfl)
theorem wSzClient_k : CallsOk Try.prog gls gvs 51 wSzClient_g := FnD.ok (F := wSzClient_F) (cs := wSzClient_c) V_ok (kC wSzHead_k (kC wSzCommittee_k (kC wSzKeys_k kN))) Try.func51 (by decide) (by kernel_rfl)
-- laws.szStringS
noncomputable def wSzStringS_F : FnD := { f := 52, fn := Try.f52, ps := [pa (.sl .str), pa (.int .i64)], rs := [rt (.int .i64)], cuts := [(5, [.val 0 (.sl .str) .sh, .val 1 (.int .i64) .sh, .val 5 (.int .i64) .sh])] }
noncomputable def wSzStringS_c : List (Nat × Sig) := []
noncomputable def wSzStringS_d : (List ByteArray) × Int × Unit → Option ((Int × Unit) × Unit) := wSzStringS_F.d V wSzStringS_c
noncomputable abbrev wSzStringS_g : Sig := wSzStringS_F.t.sig wSzStringS_d
noncomputable def wSzStringS_D5 : (List ByteArray) × Int × Int × Unit → Option ((Int × Unit) × Unit) := wSzStringS_F.D V wSzStringS_c 5
theorem wSzStringS_b (x1 : (List ByteArray)) (x2 : Int) : wSzStringS_d (x1, (x2, ())) = cnd (ilt (isub .i64 x2 (len x1)) (0 : Int)) (some (((-1 : Int), ()), ())) (wSzStringS_D5 (x1, ((isub .i64 x2 (len x1)), ((0 : Int), ())))) := (FnD.eq V wSzStringS_c wSzStringS_F (x1, (x2, ()))).trans (by kernel_rfl)
theorem wSzStringS_q5 (x1 : (List ByteArray)) (x2 : Int) (x3 : Int) : wSzStringS_D5 (x1, (x2, (x3, ()))) = cnd (ilt x3 (len x1)) (cnd (inb x3 (len x1)) (cnd (ilt (isub .i64 x2 (ssz (rd (bs []) x1 x3))) (0 : Int)) (some (((-1 : Int), ()), ())) (wSzStringS_D5 (x1, ((isub .i64 x2 (ssz (rd (bs []) x1 x3))), ((iadd .i64 x3 (1 : Int)), ()))))) none) (some ((x2, ()), ())) := (FnD.eqC V wSzStringS_c wSzStringS_F 5 (x1, (x2, (x3, ())))).trans (by kernel_rfl)
theorem wSzStringS_k : CallsOk Try.prog gls gvs 52 wSzStringS_g := FnD.ok (F := wSzStringS_F) (cs := wSzStringS_c) V_ok kN Try.func52 (by decide) (by kernel_rfl)
-- laws.szBridge
noncomputable def wSzBridge_F : FnD := { f := 25, fn := Try.f25, ps := [pa TBridge, pa (.int .i64)], rs := [rt (.int .i64)] }
noncomputable def wSzBridge_c : List (Nat × Sig) := [(51, wSzClient_g), (52, wSzStringS_g)]
noncomputable def wSzBridge_d : tBridge × Int × Unit → Option ((Int × Unit) × Unit) := wSzBridge_F.d V wSzBridge_c
noncomputable abbrev wSzBridge_g : Sig := wSzBridge_F.t.sig wSzBridge_d
theorem wSzBridge_b (x1 : tBridge) (x2 : Int) : wSzBridge_d (x1, (x2, ())) = bnd (wSzClient_d (x1.1, (x2, ()))) (fun r2 => (cnd (ilt r2.1.1 (0 : Int)) (some (((-1 : Int), ()), ())) (bnd (wSzClient_d (x1.2.1, (r2.1.1, ()))) (fun r3 => (cnd (ilt r3.1.1 (0 : Int)) (some (((-1 : Int), ()), ())) (cnd (ilt (isub .i64 r3.1.1 (ssz x1.2.2.1)) (0 : Int)) (some (((-1 : Int), ()), ())) (bnd (wSzStringS_d (x1.2.2.2.2.1, ((isub .i64 r3.1.1 (ssz x1.2.2.1)), ()))) (fun r4 => (cnd (ilt r4.1.1 (0 : Int)) (some (((-1 : Int), ()), ())) (some ((r4.1.1, ()), ()))))))))))) := (FnD.eq V wSzBridge_c wSzBridge_F (x1, (x2, ()))).trans (by kernel_rfl)
theorem wSzBridge_k : CallsOk Try.prog gls gvs 25 wSzBridge_g := FnD.ok (F := wSzBridge_F) (cs := wSzBridge_c) V_ok (kC wSzClient_k (kC wSzStringS_k kN)) Try.func25 (by decide) (by kernel_rfl)
-- laws.toHead
noncomputable def wToHead_F : FnD := { f := 82, fn := Try.f82, ps := [pa THead], rs := [rt THead] }
noncomputable def wToHead_c : List (Nat × Sig) := []
noncomputable def wToHead_d : tHead × Unit → Option ((tHead × Unit) × Unit) := wToHead_F.d V wToHead_c
noncomputable abbrev wToHead_g : Sig := wToHead_F.t.sig wToHead_d
theorem wToHead_b (x1 : tHead) : wToHead_d (x1, ()) = some (((x1.1, (x1.2.1, (x1.2.2.1, (x1.2.2.2.1, ())))), ()), ()) := (FnD.eq V wToHead_c wToHead_F (x1, ())).trans (by kernel_rfl)
theorem wToHead_k : CallsOk Try.prog gls gvs 82 wToHead_g := FnD.ok (F := wToHead_F) (cs := wToHead_c) V_ok kN Try.func82 (by decide) (by kernel_rfl)
-- laws.toPoint
noncomputable def wToPoint_F : FnD := { f := 103, fn := Try.f103, ps := [pa TPoint], rs := [rt TPoint] }
noncomputable def wToPoint_c : List (Nat × Sig) := []
noncomputable def wToPoint_d : tPoint × Unit → Option ((tPoint × Unit) × Unit) := wToPoint_F.d V wToPoint_c
noncomputable abbrev wToPoint_g : Sig := wToPoint_F.t.sig wToPoint_d
theorem wToPoint_b (x1 : tPoint) : wToPoint_d (x1, ()) = some (((x1.1, (x1.2.1, (x1.2.2.1, ()))), ()), ()) := (FnD.eq V wToPoint_c wToPoint_F (x1, ())).trans (by kernel_rfl)
theorem wToPoint_k : CallsOk Try.prog gls gvs 103 wToPoint_g := FnD.ok (F := wToPoint_F) (cs := wToPoint_c) V_ok kN Try.func103 (by decide) (by kernel_rfl)
-- laws.toPointS
noncomputable def wToPointS_F : FnD := { f := 102, fn := Try.f102, ps := [pa (.sl TPoint)], rs := [⟨(.sl TPoint), (.own 0 .sh), false⟩], cuts := [(3, [.val 0 (.sl TPoint) .sh, .val 3 (.sl TPoint) (.own 0 .sh), .val 4 (.int .i64) .sh])] }
noncomputable def wToPointS_c : List (Nat × Sig) := [(103, wToPoint_g)]
noncomputable def wToPointS_d : (List tPoint) × Unit → Option (((List tPoint) × Unit) × Unit) := wToPointS_F.d V wToPointS_c
noncomputable abbrev wToPointS_g : Sig := wToPointS_F.t.sig wToPointS_d
noncomputable def wToPointS_D3 : (List tPoint) × (List tPoint) × Int × Unit → Option (((List tPoint) × Unit) × Unit) := wToPointS_F.D V wToPointS_c 3
theorem wToPointS_b (x1 : (List tPoint)) : wToPointS_d (x1, ()) = cnd (both (inb2 (0 : Int) (len x1) (len x1)) (fits (len x1) 3)) (wToPointS_D3 (x1, ((rep (len x1) zPoint), ((0 : Int), ())))) none := (FnD.eq V wToPointS_c wToPointS_F (x1, ())).trans (by kernel_rfl)
theorem wToPointS_q3 (x1 : (List tPoint)) (x2 : (List tPoint)) (x3 : Int) : wToPointS_D3 (x1, (x2, (x3, ()))) = cnd (ilt x3 (len x1)) (cnd (inb x3 (len x1)) (bnd (wToPoint_d ((rd zPoint x1 x3), ())) (fun r3 => (cnd (inb x3 (len x2)) (wToPointS_D3 (x1, ((upd x2 x3 r3.1.1), ((iadd .i64 x3 (1 : Int)), ())))) none))) none) (some ((x2, ()), ())) := (FnD.eqC V wToPointS_c wToPointS_F 3 (x1, (x2, (x3, ())))).trans (by kernel_rfl)
theorem wToPointS_k : CallsOk Try.prog gls gvs 102 wToPointS_g := FnD.ok (F := wToPointS_F) (cs := wToPointS_c) V_ok (kC wToPoint_k kN) Try.func102 (by decide) (by kernel_rfl)
-- laws.toCommittee
noncomputable def wToCommittee_F : FnD := { f := 83, fn := Try.f83, ps := [pa TCommittee], rs := [⟨TCommittee, (.pr (.own 0 .sh) .sh), false⟩] }
noncomputable def wToCommittee_c : List (Nat × Sig) := [(102, wToPointS_g)]
noncomputable def wToCommittee_d : tCommittee × Unit → Option ((tCommittee × Unit) × Unit) := wToCommittee_F.d V wToCommittee_c
noncomputable abbrev wToCommittee_g : Sig := wToCommittee_F.t.sig wToCommittee_d
theorem wToCommittee_b (x1 : tCommittee) : wToCommittee_d (x1, ()) = bnd (wToPointS_d (x1.1, ())) (fun r1 => (some (((r1.1.1, ()), ()), ()))) := (FnD.eq V wToCommittee_c wToCommittee_F (x1, ())).trans (by kernel_rfl)
theorem wToCommittee_k : CallsOk Try.prog gls gvs 83 wToCommittee_g := FnD.ok (F := wToCommittee_F) (cs := wToCommittee_c) V_ok (kC wToPointS_k kN) Try.func83 (by decide) (by kernel_rfl)
-- laws.toKeys
noncomputable def wToKeys_F : FnD := { f := 84, fn := Try.f84, ps := [pa TKeys], rs := [⟨TKeys, (.pr .sh (.pr .sh (.pr .sh (.pr .sh (.pr (.own 0 .sh) .sh))))), false⟩] }
noncomputable def wToKeys_c : List (Nat × Sig) := [(103, wToPoint_g), (102, wToPointS_g)]
noncomputable def wToKeys_d : tKeys × Unit → Option ((tKeys × Unit) × Unit) := wToKeys_F.d V wToKeys_c
noncomputable abbrev wToKeys_g : Sig := wToKeys_F.t.sig wToKeys_d
theorem wToKeys_b (x1 : tKeys) : wToKeys_d (x1, ()) = bnd (wToPoint_d (x1.1, ())) (fun r1 => (bnd (wToPoint_d (x1.2.1, ())) (fun r2 => (bnd (wToPoint_d (x1.2.2.1, ())) (fun r3 => (bnd (wToPoint_d (x1.2.2.2.1, ())) (fun r4 => (bnd (wToPointS_d (x1.2.2.2.2.1, ())) (fun r5 => (some (((r1.1.1, (r2.1.1, (r3.1.1, (r4.1.1, (r5.1.1, ()))))), ()), ()))))))))))) := (FnD.eq V wToKeys_c wToKeys_F (x1, ())).trans (by kernel_rfl)
theorem wToKeys_k : CallsOk Try.prog gls gvs 84 wToKeys_g := FnD.ok (F := wToKeys_F) (cs := wToKeys_c) V_ok (kC wToPoint_k (kC wToPointS_k kN)) Try.func84 (by decide) (by kernel_rfl)
-- laws.toClient
noncomputable def wToClient_F : FnD := { f := 54, fn := Try.f54, ps := [pa TClient], rs := [⟨TClient, (.pr .sh (.pr (.pr (.own 0 .sh) .sh) (.pr (.pr (.own 0 .sh) .sh) (.pr .sh (.pr (.pr .sh (.pr .sh (.pr .sh (.pr .sh (.pr (.own 0 .sh) .sh))))) .sh))))), false⟩] }
noncomputable def wToClient_c : List (Nat × Sig) := [(82, wToHead_g), (83, wToCommittee_g), (84, wToKeys_g)]
noncomputable def wToClient_d : tClient × Unit → Option ((tClient × Unit) × Unit) := wToClient_F.d V wToClient_c
noncomputable abbrev wToClient_g : Sig := wToClient_F.t.sig wToClient_d
theorem wToClient_b (x1 : tClient) : wToClient_d (x1, ()) = bnd (wToHead_d (x1.1, ())) (fun r1 => (bnd (wToCommittee_d (x1.2.1, ())) (fun r2 => (bnd (wToCommittee_d (x1.2.2.1, ())) (fun r3 => (bnd (wToKeys_d (x1.2.2.2.2.1, ())) (fun r4 => (some (((r1.1.1, (r2.1.1, (r3.1.1, (x1.2.2.2.1, (r4.1.1, ()))))), ()), ()))))))))) := (FnD.eq V wToClient_c wToClient_F (x1, ())).trans (by kernel_rfl)
theorem wToClient_k : CallsOk Try.prog gls gvs 54 wToClient_g := FnD.ok (F := wToClient_F) (cs := wToClient_c) V_ok (kC wToHead_k (kC wToCommittee_k (kC wToKeys_k kN))) Try.func54 (by decide) (by kernel_rfl)
-- laws.toStringS
noncomputable def wToStringS_F : FnD := { f := 55, fn := Try.f55, ps := [pa (.sl .str)], rs := [⟨(.sl .str), (.own 0 .sh), false⟩], cuts := [(3, [.val 0 (.sl .str) .sh, .val 3 (.sl .str) (.own 0 .sh), .val 4 (.int .i64) .sh])] }
noncomputable def wToStringS_c : List (Nat × Sig) := []
noncomputable def wToStringS_d : (List ByteArray) × Unit → Option (((List ByteArray) × Unit) × Unit) := wToStringS_F.d V wToStringS_c
noncomputable abbrev wToStringS_g : Sig := wToStringS_F.t.sig wToStringS_d
noncomputable def wToStringS_D3 : (List ByteArray) × (List ByteArray) × Int × Unit → Option (((List ByteArray) × Unit) × Unit) := wToStringS_F.D V wToStringS_c 3
theorem wToStringS_b (x1 : (List ByteArray)) : wToStringS_d (x1, ()) = cnd (both (inb2 (0 : Int) (len x1) (len x1)) (fits (len x1) 1)) (wToStringS_D3 (x1, ((rep (len x1) (bs [])), ((0 : Int), ())))) none := (FnD.eq V wToStringS_c wToStringS_F (x1, ())).trans (by kernel_rfl)
theorem wToStringS_q3 (x1 : (List ByteArray)) (x2 : (List ByteArray)) (x3 : Int) : wToStringS_D3 (x1, (x2, (x3, ()))) = cnd (ilt x3 (len x1)) (cnd (inb x3 (len x1)) (cnd (inb x3 (len x2)) (wToStringS_D3 (x1, ((upd x2 x3 (rd (bs []) x1 x3)), ((iadd .i64 x3 (1 : Int)), ())))) none) none) (some ((x2, ()), ())) := (FnD.eqC V wToStringS_c wToStringS_F 3 (x1, (x2, (x3, ())))).trans (by kernel_rfl)
theorem wToStringS_k : CallsOk Try.prog gls gvs 55 wToStringS_g := FnD.ok (F := wToStringS_F) (cs := wToStringS_c) V_ok kN Try.func55 (by decide) (by kernel_rfl)
-- laws.toBridge
noncomputable def wToBridge_F : FnD := { f := 27, fn := Try.f27, ps := [pa TBridge], rs := [⟨TBridge, (.pr (.pr .sh (.pr (.pr (.own 0 .sh) .sh) (.pr (.pr (.own 0 .sh) .sh) (.pr .sh (.pr (.pr .sh (.pr .sh (.pr .sh (.pr .sh (.pr (.own 0 .sh) .sh))))) .sh))))) (.pr (.pr .sh (.pr (.pr (.own 0 .sh) .sh) (.pr (.pr (.own 0 .sh) .sh) (.pr .sh (.pr (.pr .sh (.pr .sh (.pr .sh (.pr .sh (.pr (.own 0 .sh) .sh))))) .sh))))) (.pr .sh (.pr .sh (.pr (.own 0 .sh) .sh))))), false⟩] }
noncomputable def wToBridge_c : List (Nat × Sig) := [(54, wToClient_g), (55, wToStringS_g)]
noncomputable def wToBridge_d : tBridge × Unit → Option ((tBridge × Unit) × Unit) := wToBridge_F.d V wToBridge_c
noncomputable abbrev wToBridge_g : Sig := wToBridge_F.t.sig wToBridge_d
theorem wToBridge_b (x1 : tBridge) : wToBridge_d (x1, ()) = bnd (wToClient_d (x1.1, ())) (fun r1 => (bnd (wToClient_d (x1.2.1, ())) (fun r2 => (bnd (wToStringS_d (x1.2.2.2.2.1, ())) (fun r3 => (some (((r1.1.1, (r2.1.1, (x1.2.2.1, (x1.2.2.2.1, (r3.1.1, (x1.2.2.2.2.2.1, ())))))), ()), ()))))))) := (FnD.eq V wToBridge_c wToBridge_F (x1, ())).trans (by kernel_rfl)
theorem wToBridge_k : CallsOk Try.prog gls gvs 27 wToBridge_g := FnD.ok (F := wToBridge_F) (cs := wToBridge_c) V_ok (kC wToClient_k (kC wToStringS_k kN)) Try.func27 (by decide) (by kernel_rfl)
-- spec.l22Committee
noncomputable def sL22Committee_F : FnD := { f := 101, fn := Try.f101, ps := [pa TCommittee], rs := [⟨TCommittee, (.pr (.own 0 .sh) .sh), false⟩] }
noncomputable def sL22Committee_c : List (Nat × Sig) := []
noncomputable def sL22Committee_d : tCommittee × Unit → Option ((tCommittee × Unit) × Unit) := sL22Committee_F.d V sL22Committee_c
noncomputable abbrev sL22Committee_g : Sig := sL22Committee_F.t.sig sL22Committee_d
theorem sL22Committee_b (x1 : tCommittee) : sL22Committee_d (x1, ()) = cnd (fits ((len ([] : List tPoint)) + (len x1.1)) 3) (some ((((app ([] : List tPoint) x1.1), ()), ()), ())) none := (FnD.eq V sL22Committee_c sL22Committee_F (x1, ())).trans (by kernel_rfl)
theorem sL22Committee_k : CallsOk Try.prog gls gvs 101 sL22Committee_g := FnD.ok (F := sL22Committee_F) (cs := sL22Committee_c) V_ok kN Try.func101 (by decide) (by kernel_rfl)
-- spec.l22Copy
noncomputable def sL22Copy_F : FnD := { f := 81, fn := Try.f81, ps := [pa TClient], rs := [⟨TClient, (.pr .sh (.pr (.pr (.own 0 .sh) .sh) (.pr (.pr (.own 0 .sh) .sh) (.pr .sh (.pr (.pr .sh (.pr .sh (.pr .sh (.pr .sh (.pr (.own 0 .sh) .sh))))) .sh))))), false⟩] }
noncomputable def sL22Copy_c : List (Nat × Sig) := [(101, sL22Committee_g)]
noncomputable def sL22Copy_d : tClient × Unit → Option ((tClient × Unit) × Unit) := sL22Copy_F.d V sL22Copy_c
noncomputable abbrev sL22Copy_g : Sig := sL22Copy_F.t.sig sL22Copy_d
theorem sL22Copy_b (x1 : tClient) : sL22Copy_d (x1, ()) = bnd (sL22Committee_d (x1.2.1, ())) (fun r1 => (bnd (sL22Committee_d (x1.2.2.1, ())) (fun r2 => (cnd (fits ((len ([] : List tPoint)) + (len x1.2.2.2.2.1.2.2.2.2.1)) 3) (some (((x1.1, (r1.1.1, (r2.1.1, (x1.2.2.2.1, ((x1.2.2.2.2.1.1, (x1.2.2.2.2.1.2.1, (x1.2.2.2.2.1.2.2.1, (x1.2.2.2.2.1.2.2.2.1, ((app ([] : List tPoint) x1.2.2.2.2.1.2.2.2.2.1), x1.2.2.2.2.1.2.2.2.2.2))))), x1.2.2.2.2.2))))), ()), ())) none)))) := (FnD.eq V sL22Copy_c sL22Copy_F (x1, ())).trans (by kernel_rfl)
theorem sL22Copy_k : CallsOk Try.prog gls gvs 81 sL22Copy_g := FnD.ok (F := sL22Copy_F) (cs := sL22Copy_c) V_ok (kC sL22Committee_k kN) Try.func81 (by decide) (by kernel_rfl)
-- spec.l24Copy
noncomputable def sL24Copy_F : FnD := { f := 53, fn := Try.f53, ps := [pa TBridge], rs := [⟨TBridge, (.pr (.pr .sh (.pr (.pr (.own 0 .sh) .sh) (.pr (.pr (.own 0 .sh) .sh) (.pr .sh (.pr (.pr .sh (.pr .sh (.pr .sh (.pr .sh (.pr (.own 0 .sh) .sh))))) .sh))))) (.pr (.pr .sh (.pr (.pr (.own 0 .sh) .sh) (.pr (.pr (.own 0 .sh) .sh) (.pr .sh (.pr (.pr .sh (.pr .sh (.pr .sh (.pr .sh (.pr (.own 0 .sh) .sh))))) .sh))))) (.pr .sh (.pr .sh (.pr (.own 0 .sh) .sh))))), false⟩] }
noncomputable def sL24Copy_c : List (Nat × Sig) := [(81, sL22Copy_g)]
noncomputable def sL24Copy_d : tBridge × Unit → Option ((tBridge × Unit) × Unit) := sL24Copy_F.d V sL24Copy_c
noncomputable abbrev sL24Copy_g : Sig := sL24Copy_F.t.sig sL24Copy_d
theorem sL24Copy_b (x1 : tBridge) : sL24Copy_d (x1, ()) = bnd (sL22Copy_d (x1.1, ())) (fun r1 => (bnd (sL22Copy_d (x1.2.1, ())) (fun r2 => (cnd (fits ((len ([] : List ByteArray)) + (len x1.2.2.2.2.1)) 1) (some (((r1.1.1, (r2.1.1, (x1.2.2.1, (x1.2.2.2.1, ((app ([] : List ByteArray) x1.2.2.2.2.1), x1.2.2.2.2.2))))), ()), ())) none)))) := (FnD.eq V sL24Copy_c sL24Copy_F (x1, ())).trans (by kernel_rfl)
theorem sL24Copy_k : CallsOk Try.prog gls gvs 53 sL24Copy_g := FnD.ok (F := sL24Copy_F) (cs := sL24Copy_c) V_ok (kC sL22Copy_k kN) Try.func53 (by decide) (by kernel_rfl)
-- spec.Save
noncomputable def sSave_F : FnD := { f := 26, fn := Try.f26, ps := [pa TBridge], rs := [⟨TBridge, (.pr (.pr .sh (.pr (.pr (.own 0 .sh) .sh) (.pr (.pr (.own 0 .sh) .sh) (.pr .sh (.pr (.pr .sh (.pr .sh (.pr .sh (.pr .sh (.pr (.own 0 .sh) .sh))))) .sh))))) (.pr (.pr .sh (.pr (.pr (.own 0 .sh) .sh) (.pr (.pr (.own 0 .sh) .sh) (.pr .sh (.pr (.pr .sh (.pr .sh (.pr .sh (.pr .sh (.pr (.own 0 .sh) .sh))))) .sh))))) (.pr .sh (.pr .sh (.pr (.own 0 .sh) .sh))))), false⟩] }
noncomputable def sSave_c : List (Nat × Sig) := [(53, sL24Copy_g)]
noncomputable def sSave_d : tBridge × Unit → Option ((tBridge × Unit) × Unit) := sSave_F.d V sSave_c
noncomputable abbrev sSave_g : Sig := sSave_F.t.sig sSave_d
theorem sSave_b (x1 : tBridge) : sSave_d (x1, ()) = bnd (sL24Copy_d (x1, ())) (fun r1 => (some (((r1.1.1.1, (r1.1.1.2.1, (r1.1.1.2.2.1, ((ssz x1.2.2.1), r1.1.1.2.2.2.2)))), ()), ()))) := (FnD.eq V sSave_c sSave_F (x1, ())).trans (by kernel_rfl)
theorem sSave_k : CallsOk Try.prog gls gvs 26 sSave_g := FnD.ok (F := sSave_F) (cs := sSave_c) V_ok (kC sL24Copy_k kN) Try.func26 (by decide) (by kernel_rfl)
-- slices.Clone[[]impl.Point,impl.Point]
noncomputable def g_slices_Clone_impl_Point_impl_Point_F : FnD := { f := 115, fn := Try.f115, ps := [pa (.sl TPoint)], rs := [⟨(.sl TPoint), (.own 0 .sh), false⟩] }
noncomputable def g_slices_Clone_impl_Point_impl_Point_c : List (Nat × Sig) := []
noncomputable def g_slices_Clone_impl_Point_impl_Point_d : (List tPoint) × Unit → Option (((List tPoint) × Unit) × Unit) := g_slices_Clone_impl_Point_impl_Point_F.d V g_slices_Clone_impl_Point_impl_Point_c
noncomputable abbrev g_slices_Clone_impl_Point_impl_Point_g : Sig := g_slices_Clone_impl_Point_impl_Point_F.t.sig g_slices_Clone_impl_Point_impl_Point_d
theorem g_slices_Clone_impl_Point_impl_Point_b (x1 : (List tPoint)) : g_slices_Clone_impl_Point_impl_Point_d (x1, ()) = cnd (ieq (len x1) (0 : Int)) (agree (some (zCommittee, ())) (cnd (fits ((len ([] : List tPoint)) + (len x1)) 3) (some (((app ([] : List tPoint) x1), ()), ())) none)) (cnd (fits ((len ([] : List tPoint)) + (len x1)) 3) (some (((app ([] : List tPoint) x1), ()), ())) none) := (FnD.eq V g_slices_Clone_impl_Point_impl_Point_c g_slices_Clone_impl_Point_impl_Point_F (x1, ())).trans (by kernel_rfl)
theorem g_slices_Clone_impl_Point_impl_Point_k : CallsOk Try.prog gls gvs 115 g_slices_Clone_impl_Point_impl_Point_g := FnD.ok (F := g_slices_Clone_impl_Point_impl_Point_F) (cs := g_slices_Clone_impl_Point_impl_Point_c) V_ok kN Try.func115 (by decide) (by kernel_rfl)
-- impl.copyCommittee
noncomputable def iCopyCommittee_F : FnD := { f := 104, fn := Try.f104, ps := [pa TCommittee], rs := [⟨TCommittee, (.pr (.own 0 .sh) .sh), false⟩] }
noncomputable def iCopyCommittee_c : List (Nat × Sig) := [(115, g_slices_Clone_impl_Point_impl_Point_g)]
noncomputable def iCopyCommittee_d : tCommittee × Unit → Option ((tCommittee × Unit) × Unit) := iCopyCommittee_F.d V iCopyCommittee_c
noncomputable abbrev iCopyCommittee_g : Sig := iCopyCommittee_F.t.sig iCopyCommittee_d
theorem iCopyCommittee_b (x1 : tCommittee) : iCopyCommittee_d (x1, ()) = bnd (g_slices_Clone_impl_Point_impl_Point_d (x1.1, ())) (fun r1 => (some (((r1.1.1, ()), ()), ()))) := (FnD.eq V iCopyCommittee_c iCopyCommittee_F (x1, ())).trans (by kernel_rfl)
theorem iCopyCommittee_k : CallsOk Try.prog gls gvs 104 iCopyCommittee_g := FnD.ok (F := iCopyCommittee_F) (cs := iCopyCommittee_c) V_ok (kC g_slices_Clone_impl_Point_impl_Point_k kN) Try.func104 (by decide) (by kernel_rfl)
-- impl.copyKeys
noncomputable def iCopyKeys_F : FnD := { f := 105, fn := Try.f105, ps := [pa TKeys], rs := [⟨TKeys, (.pr .sh (.pr .sh (.pr .sh (.pr .sh (.pr (.own 0 .sh) .sh))))), false⟩] }
noncomputable def iCopyKeys_c : List (Nat × Sig) := [(115, g_slices_Clone_impl_Point_impl_Point_g)]
noncomputable def iCopyKeys_d : tKeys × Unit → Option ((tKeys × Unit) × Unit) := iCopyKeys_F.d V iCopyKeys_c
noncomputable abbrev iCopyKeys_g : Sig := iCopyKeys_F.t.sig iCopyKeys_d
theorem iCopyKeys_b (x1 : tKeys) : iCopyKeys_d (x1, ()) = bnd (g_slices_Clone_impl_Point_impl_Point_d (x1.2.2.2.2.1, ())) (fun r1 => (some (((x1.1, (x1.2.1, (x1.2.2.1, (x1.2.2.2.1, (r1.1.1, x1.2.2.2.2.2))))), ()), ()))) := (FnD.eq V iCopyKeys_c iCopyKeys_F (x1, ())).trans (by kernel_rfl)
theorem iCopyKeys_k : CallsOk Try.prog gls gvs 105 iCopyKeys_g := FnD.ok (F := iCopyKeys_F) (cs := iCopyKeys_c) V_ok (kC g_slices_Clone_impl_Point_impl_Point_k kN) Try.func105 (by decide) (by kernel_rfl)
-- impl.copyClient
noncomputable def iCopyClient_F : FnD := { f := 85, fn := Try.f85, ps := [pa TClient], rs := [⟨TClient, (.pr .sh (.pr (.pr (.own 0 .sh) .sh) (.pr (.pr (.own 0 .sh) .sh) (.pr .sh (.pr (.pr .sh (.pr .sh (.pr .sh (.pr .sh (.pr (.own 0 .sh) .sh))))) .sh))))), false⟩] }
noncomputable def iCopyClient_c : List (Nat × Sig) := [(104, iCopyCommittee_g), (105, iCopyKeys_g)]
noncomputable def iCopyClient_d : tClient × Unit → Option ((tClient × Unit) × Unit) := iCopyClient_F.d V iCopyClient_c
noncomputable abbrev iCopyClient_g : Sig := iCopyClient_F.t.sig iCopyClient_d
theorem iCopyClient_b (x1 : tClient) : iCopyClient_d (x1, ()) = bnd (iCopyCommittee_d (x1.2.1, ())) (fun r1 => (bnd (iCopyCommittee_d (x1.2.2.1, ())) (fun r2 => (bnd (iCopyKeys_d (x1.2.2.2.2.1, ())) (fun r3 => (some (((x1.1, (r1.1.1, (r2.1.1, (x1.2.2.2.1, (r3.1.1, x1.2.2.2.2.2))))), ()), ()))))))) := (FnD.eq V iCopyClient_c iCopyClient_F (x1, ())).trans (by kernel_rfl)
theorem iCopyClient_k : CallsOk Try.prog gls gvs 85 iCopyClient_g := FnD.ok (F := iCopyClient_F) (cs := iCopyClient_c) V_ok (kC iCopyCommittee_k (kC iCopyKeys_k kN)) Try.func85 (by decide) (by kernel_rfl)
-- slices.Clone[[]string,string]
noncomputable def g_slices_Clone_string_string_F : FnD := { f := 86, fn := Try.f86, ps := [pa (.sl .str)], rs := [⟨(.sl .str), (.own 0 .sh), false⟩] }
noncomputable def g_slices_Clone_string_string_c : List (Nat × Sig) := []
noncomputable def g_slices_Clone_string_string_d : (List ByteArray) × Unit → Option (((List ByteArray) × Unit) × Unit) := g_slices_Clone_string_string_F.d V g_slices_Clone_string_string_c
noncomputable abbrev g_slices_Clone_string_string_g : Sig := g_slices_Clone_string_string_F.t.sig g_slices_Clone_string_string_d
theorem g_slices_Clone_string_string_b (x1 : (List ByteArray)) : g_slices_Clone_string_string_d (x1, ()) = cnd (ieq (len x1) (0 : Int)) (agree (some ((([] : List ByteArray), ()), ())) (cnd (fits ((len ([] : List ByteArray)) + (len x1)) 1) (some (((app ([] : List ByteArray) x1), ()), ())) none)) (cnd (fits ((len ([] : List ByteArray)) + (len x1)) 1) (some (((app ([] : List ByteArray) x1), ()), ())) none) := (FnD.eq V g_slices_Clone_string_string_c g_slices_Clone_string_string_F (x1, ())).trans (by kernel_rfl)
theorem g_slices_Clone_string_string_k : CallsOk Try.prog gls gvs 86 g_slices_Clone_string_string_g := FnD.ok (F := g_slices_Clone_string_string_F) (cs := g_slices_Clone_string_string_c) V_ok kN Try.func86 (by decide) (by kernel_rfl)
-- impl.copyBridge
noncomputable def iCopyBridge_F : FnD := { f := 56, fn := Try.f56, ps := [pa TBridge], rs := [⟨TBridge, (.pr (.pr .sh (.pr (.pr (.own 0 .sh) .sh) (.pr (.pr (.own 0 .sh) .sh) (.pr .sh (.pr (.pr .sh (.pr .sh (.pr .sh (.pr .sh (.pr (.own 0 .sh) .sh))))) .sh))))) (.pr (.pr .sh (.pr (.pr (.own 0 .sh) .sh) (.pr (.pr (.own 0 .sh) .sh) (.pr .sh (.pr (.pr .sh (.pr .sh (.pr .sh (.pr .sh (.pr (.own 0 .sh) .sh))))) .sh))))) (.pr .sh (.pr .sh (.pr (.own 0 .sh) .sh))))), false⟩] }
noncomputable def iCopyBridge_c : List (Nat × Sig) := [(85, iCopyClient_g), (86, g_slices_Clone_string_string_g)]
noncomputable def iCopyBridge_d : tBridge × Unit → Option ((tBridge × Unit) × Unit) := iCopyBridge_F.d V iCopyBridge_c
noncomputable abbrev iCopyBridge_g : Sig := iCopyBridge_F.t.sig iCopyBridge_d
theorem iCopyBridge_b (x1 : tBridge) : iCopyBridge_d (x1, ()) = bnd (iCopyClient_d (x1.1, ())) (fun r1 => (bnd (iCopyClient_d (x1.2.1, ())) (fun r2 => (bnd (g_slices_Clone_string_string_d (x1.2.2.2.2.1, ())) (fun r3 => (some (((r1.1.1, (r2.1.1, (x1.2.2.1, (x1.2.2.2.1, (r3.1.1, x1.2.2.2.2.2))))), ()), ()))))))) := (FnD.eq V iCopyBridge_c iCopyBridge_F (x1, ())).trans (by kernel_rfl)
theorem iCopyBridge_k : CallsOk Try.prog gls gvs 56 iCopyBridge_g := FnD.ok (F := iCopyBridge_F) (cs := iCopyBridge_c) V_ok (kC iCopyClient_k (kC g_slices_Clone_string_string_k kN)) Try.func56 (by decide) (by kernel_rfl)
-- impl.Save
noncomputable def iSave_F : FnD := { f := 28, fn := Try.f28, ps := [pa TBridge], rs := [⟨TBridge, (.pr (.pr .sh (.pr (.pr (.own 0 .sh) .sh) (.pr (.pr (.own 0 .sh) .sh) (.pr .sh (.pr (.pr .sh (.pr .sh (.pr .sh (.pr .sh (.pr (.own 0 .sh) .sh))))) .sh))))) (.pr (.pr .sh (.pr (.pr (.own 0 .sh) .sh) (.pr (.pr (.own 0 .sh) .sh) (.pr .sh (.pr (.pr .sh (.pr .sh (.pr .sh (.pr .sh (.pr (.own 0 .sh) .sh))))) .sh))))) (.pr .sh (.pr .sh (.pr (.own 0 .sh) .sh))))), false⟩] }
noncomputable def iSave_c : List (Nat × Sig) := [(56, iCopyBridge_g)]
noncomputable def iSave_d : tBridge × Unit → Option ((tBridge × Unit) × Unit) := iSave_F.d V iSave_c
noncomputable abbrev iSave_g : Sig := iSave_F.t.sig iSave_d
theorem iSave_b (x1 : tBridge) : iSave_d (x1, ()) = bnd (iCopyBridge_d (x1, ())) (fun r1 => (some (((r1.1.1.1, (r1.1.1.2.1, (r1.1.1.2.2.1, ((ssz x1.2.2.1), r1.1.1.2.2.2.2)))), ()), ()))) := (FnD.eq V iSave_c iSave_F (x1, ())).trans (by kernel_rfl)
theorem iSave_k : CallsOk Try.prog gls gvs 28 iSave_g := FnD.ok (F := iSave_F) (cs := iSave_c) V_ok (kC iCopyBridge_k kN) Try.func28 (by decide) (by kernel_rfl)
-- laws.eqHead
noncomputable def wEqHead_F : FnD := { f := 87, fn := Try.f87, ps := [pa THead, pa THead], rs := [rt .bool] }
noncomputable def wEqHead_c : List (Nat × Sig) := []
noncomputable def wEqHead_d : tHead × tHead × Unit → Option ((Bool × Unit) × Unit) := wEqHead_F.d V wEqHead_c
noncomputable abbrev wEqHead_g : Sig := wEqHead_F.t.sig wEqHead_d
theorem wEqHead_b (x1 : tHead) (x2 : tHead) : wEqHead_d (x1, (x2, ())) = cnd (ine x1.1 x2.1) (some ((false, ()), ())) (cnd (sne x1.2.1 x2.2.1) (some ((false, ()), ())) (cnd (sne x1.2.2.1 x2.2.2.1) (some ((false, ()), ())) (cnd (sne x1.2.2.2.1 x2.2.2.2.1) (some ((false, ()), ())) (some ((true, ()), ()))))) := (FnD.eq V wEqHead_c wEqHead_F (x1, (x2, ()))).trans (by kernel_rfl)
theorem wEqHead_k : CallsOk Try.prog gls gvs 87 wEqHead_g := FnD.ok (F := wEqHead_F) (cs := wEqHead_c) V_ok kN Try.func87 (by decide) (by kernel_rfl)
-- laws.eqPoint
noncomputable def wEqPoint_F : FnD := { f := 96, fn := Try.f96, ps := [pa TPoint, pa TPoint], rs := [rt .bool] }
noncomputable def wEqPoint_c : List (Nat × Sig) := []
noncomputable def wEqPoint_d : tPoint × tPoint × Unit → Option ((Bool × Unit) × Unit) := wEqPoint_F.d V wEqPoint_c
noncomputable abbrev wEqPoint_g : Sig := wEqPoint_F.t.sig wEqPoint_d
theorem wEqPoint_b (x1 : tPoint) (x2 : tPoint) : wEqPoint_d (x1, (x2, ())) = cnd (ine x1.1 x2.1) (some ((false, ()), ())) (cnd (ine x1.2.1 x2.2.1) (some ((false, ()), ())) (cnd (bneB x1.2.2.1 x2.2.2.1) (some ((false, ()), ())) (some ((true, ()), ())))) := (FnD.eq V wEqPoint_c wEqPoint_F (x1, (x2, ()))).trans (by kernel_rfl)
theorem wEqPoint_k : CallsOk Try.prog gls gvs 96 wEqPoint_g := FnD.ok (F := wEqPoint_F) (cs := wEqPoint_c) V_ok kN Try.func96 (by decide) (by kernel_rfl)
-- laws.eqPointS
noncomputable def wEqPointS_F : FnD := { f := 69, fn := Try.f69, ps := [pa (.sl TPoint), pa (.sl TPoint)], rs := [rt .bool], cuts := [(4, [.val 0 (.sl TPoint) .sh, .val 1 (.sl TPoint) .sh, .val 5 (.int .i64) .sh])] }
noncomputable def wEqPointS_c : List (Nat × Sig) := [(96, wEqPoint_g)]
noncomputable def wEqPointS_d : (List tPoint) × (List tPoint) × Unit → Option ((Bool × Unit) × Unit) := wEqPointS_F.d V wEqPointS_c
noncomputable abbrev wEqPointS_g : Sig := wEqPointS_F.t.sig wEqPointS_d
noncomputable def wEqPointS_D4 : (List tPoint) × (List tPoint) × Int × Unit → Option ((Bool × Unit) × Unit) := wEqPointS_F.D V wEqPointS_c 4
theorem wEqPointS_b (x1 : (List tPoint)) (x2 : (List tPoint)) : wEqPointS_d (x1, (x2, ())) = cnd (ine (len x1) (len x2)) (some ((false, ()), ())) (wEqPointS_D4 (x1, (x2, ((0 : Int), ())))) := (FnD.eq V wEqPointS_c wEqPointS_F (x1, (x2, ()))).trans (by kernel_rfl)
theorem wEqPointS_q4 (x1 : (List tPoint)) (x2 : (List tPoint)) (x3 : Int) : wEqPointS_D4 (x1, (x2, (x3, ()))) = cnd (ilt x3 (len x1)) (cnd (inb x3 (len x1)) (cnd (inb x3 (len x2)) (bnd (wEqPoint_d ((rd zPoint x1 x3), ((rd zPoint x2 x3), ()))) (fun r3 => (cnd (bnot r3.1.1) (some ((false, ()), ())) (wEqPointS_D4 (x1, (x2, ((iadd .i64 x3 (1 : Int)), ()))))))) none) none) (some ((true, ()), ())) := (FnD.eqC V wEqPointS_c wEqPointS_F 4 (x1, (x2, (x3, ())))).trans (by kernel_rfl)
theorem wEqPointS_k : CallsOk Try.prog gls gvs 69 wEqPointS_g := FnD.ok (F := wEqPointS_F) (cs := wEqPointS_c) V_ok (kC wEqPoint_k kN) Try.func69 (by decide) (by kernel_rfl)
-- laws.eqCommittee
noncomputable def wEqCommittee_F : FnD := { f := 38, fn := Try.f38, ps := [pa TCommittee, pa TCommittee], rs := [rt .bool] }
noncomputable def wEqCommittee_c : List (Nat × Sig) := [(69, wEqPointS_g)]
noncomputable def wEqCommittee_d : tCommittee × tCommittee × Unit → Option ((Bool × Unit) × Unit) := wEqCommittee_F.d V wEqCommittee_c
noncomputable abbrev wEqCommittee_g : Sig := wEqCommittee_F.t.sig wEqCommittee_d
theorem wEqCommittee_b (x1 : tCommittee) (x2 : tCommittee) : wEqCommittee_d (x1, (x2, ())) = bnd (wEqPointS_d (x1.1, (x2.1, ()))) (fun r2 => (cnd (bnot r2.1.1) (some ((false, ()), ())) (some ((true, ()), ())))) := (FnD.eq V wEqCommittee_c wEqCommittee_F (x1, (x2, ()))).trans (by kernel_rfl)
theorem wEqCommittee_k : CallsOk Try.prog gls gvs 38 wEqCommittee_g := FnD.ok (F := wEqCommittee_F) (cs := wEqCommittee_c) V_ok (kC wEqPointS_k kN) Try.func38 (by decide) (by kernel_rfl)
-- laws.eqKeys
noncomputable def wEqKeys_F : FnD := { f := 88, fn := Try.f88, ps := [pa TKeys, pa TKeys], rs := [rt .bool] }
noncomputable def wEqKeys_c : List (Nat × Sig) := [(96, wEqPoint_g), (69, wEqPointS_g)]
noncomputable def wEqKeys_d : tKeys × tKeys × Unit → Option ((Bool × Unit) × Unit) := wEqKeys_F.d V wEqKeys_c
noncomputable abbrev wEqKeys_g : Sig := wEqKeys_F.t.sig wEqKeys_d
theorem wEqKeys_b (x1 : tKeys) (x2 : tKeys) : wEqKeys_d (x1, (x2, ())) = bnd (wEqPoint_d (x1.1, (x2.1, ()))) (fun r2 => (cnd (bnot r2.1.1) (some ((false, ()), ())) (bnd (wEqPoint_d (x1.2.1, (x2.2.1, ()))) (fun r3 => (cnd (bnot r3.1.1) (some ((false, ()), ())) (bnd (wEqPoint_d (x1.2.2.1, (x2.2.2.1, ()))) (fun r4 => (cnd (bnot r4.1.1) (some ((false, ()), ())) (bnd (wEqPoint_d (x1.2.2.2.1, (x2.2.2.2.1, ()))) (fun r5 => (cnd (bnot r5.1.1) (some ((false, ()), ())) (bnd (wEqPointS_d (x1.2.2.2.2.1, (x2.2.2.2.2.1, ()))) (fun r6 => (cnd (bnot r6.1.1) (some ((false, ()), ())) (some ((true, ()), ())))))))))))))))) := (FnD.eq V wEqKeys_c wEqKeys_F (x1, (x2, ()))).trans (by kernel_rfl)
theorem wEqKeys_k : CallsOk Try.prog gls gvs 88 wEqKeys_g := FnD.ok (F := wEqKeys_F) (cs := wEqKeys_c) V_ok (kC wEqPoint_k (kC wEqPointS_k kN)) Try.func88 (by decide) (by kernel_rfl)
-- laws.eqClient
noncomputable def wEqClient_F : FnD := { f := 57, fn := Try.f57, ps := [pa TClient, pa TClient], rs := [rt .bool] }
noncomputable def wEqClient_c : List (Nat × Sig) := [(87, wEqHead_g), (38, wEqCommittee_g), (88, wEqKeys_g)]
noncomputable def wEqClient_d : tClient × tClient × Unit → Option ((Bool × Unit) × Unit) := wEqClient_F.d V wEqClient_c
noncomputable abbrev wEqClient_g : Sig := wEqClient_F.t.sig wEqClient_d
theorem wEqClient_b (x1 : tClient) (x2 : tClient) : wEqClient_d (x1, (x2, ())) = bnd (wEqHead_d (x1.1, (x2.1, ()))) (fun r2 => (cnd (bnot r2.1.1) (some ((false, ()), ())) (bnd (wEqCommittee_d (x1.2.1, (x2.2.1, ()))) (fun r3 => (cnd (bnot r3.1.1) (some ((false, ()), ())) (bnd (wEqCommittee_d (x1.2.2.1, (x2.2.2.1, ()))) (fun r4 => (cnd (bnot r4.1.1) (some ((false, ()), ())) (cnd (bneB x1.2.2.2.1 x2.2.2.2.1) (some ((false, ()), ())) (bnd (wEqKeys_d (x1.2.2.2.2.1, (x2.2.2.2.2.1, ()))) (fun r5 => (cnd (bnot r5.1.1) (some ((false, ()), ())) (some ((true, ()), ())))))))))))))) := (FnD.eq V wEqClient_c wEqClient_F (x1, (x2, ()))).trans (by kernel_rfl)
theorem wEqClient_k : CallsOk Try.prog gls gvs 57 wEqClient_g := FnD.ok (F := wEqClient_F) (cs := wEqClient_c) V_ok (kC wEqHead_k (kC wEqCommittee_k (kC wEqKeys_k kN))) Try.func57 (by decide) (by kernel_rfl)
-- laws.eqStringS
noncomputable def wEqStringS_F : FnD := { f := 58, fn := Try.f58, ps := [pa (.sl .str), pa (.sl .str)], rs := [rt .bool], cuts := [(4, [.val 0 (.sl .str) .sh, .val 1 (.sl .str) .sh, .val 5 (.int .i64) .sh])] }
noncomputable def wEqStringS_c : List (Nat × Sig) := []
noncomputable def wEqStringS_d : (List ByteArray) × (List ByteArray) × Unit → Option ((Bool × Unit) × Unit) := wEqStringS_F.d V wEqStringS_c
noncomputable abbrev wEqStringS_g : Sig := wEqStringS_F.t.sig wEqStringS_d
noncomputable def wEqStringS_D4 : (List ByteArray) × (List ByteArray) × Int × Unit → Option ((Bool × Unit) × Unit) := wEqStringS_F.D V wEqStringS_c 4
theorem wEqStringS_b (x1 : (List ByteArray)) (x2 : (List ByteArray)) : wEqStringS_d (x1, (x2, ())) = cnd (ine (len x1) (len x2)) (some ((false, ()), ())) (wEqStringS_D4 (x1, (x2, ((0 : Int), ())))) := (FnD.eq V wEqStringS_c wEqStringS_F (x1, (x2, ()))).trans (by kernel_rfl)
theorem wEqStringS_q4 (x1 : (List ByteArray)) (x2 : (List ByteArray)) (x3 : Int) : wEqStringS_D4 (x1, (x2, (x3, ()))) = cnd (ilt x3 (len x1)) (cnd (inb x3 (len x1)) (cnd (inb x3 (len x2)) (cnd (sne (rd (bs []) x1 x3) (rd (bs []) x2 x3)) (some ((false, ()), ())) (wEqStringS_D4 (x1, (x2, ((iadd .i64 x3 (1 : Int)), ()))))) none) none) (some ((true, ()), ())) := (FnD.eqC V wEqStringS_c wEqStringS_F 4 (x1, (x2, (x3, ())))).trans (by kernel_rfl)
theorem wEqStringS_k : CallsOk Try.prog gls gvs 58 wEqStringS_g := FnD.ok (F := wEqStringS_F) (cs := wEqStringS_c) V_ok kN Try.func58 (by decide) (by kernel_rfl)
-- laws.eqBridge
noncomputable def wEqBridge_F : FnD := { f := 29, fn := Try.f29, ps := [pa TBridge, pa TBridge], rs := [rt .bool] }
noncomputable def wEqBridge_c : List (Nat × Sig) := [(57, wEqClient_g), (58, wEqStringS_g)]
noncomputable def wEqBridge_d : tBridge × tBridge × Unit → Option ((Bool × Unit) × Unit) := wEqBridge_F.d V wEqBridge_c
noncomputable abbrev wEqBridge_g : Sig := wEqBridge_F.t.sig wEqBridge_d
theorem wEqBridge_b (x1 : tBridge) (x2 : tBridge) : wEqBridge_d (x1, (x2, ())) = bnd (wEqClient_d (x1.1, (x2.1, ()))) (fun r2 => (cnd (bnot r2.1.1) (some ((false, ()), ())) (bnd (wEqClient_d (x1.2.1, (x2.2.1, ()))) (fun r3 => (cnd (bnot r3.1.1) (some ((false, ()), ())) (cnd (sne x1.2.2.1 x2.2.2.1) (some ((false, ()), ())) (cnd (ine x1.2.2.2.1 x2.2.2.2.1) (some ((false, ()), ())) (bnd (wEqStringS_d (x1.2.2.2.2.1, (x2.2.2.2.2.1, ()))) (fun r4 => (cnd (bnot r4.1.1) (some ((false, ()), ())) (cnd (ine x1.2.2.2.2.2.1 x2.2.2.2.2.2.1) (some ((false, ()), ())) (some ((true, ()), ()))))))))))))) := (FnD.eq V wEqBridge_c wEqBridge_F (x1, (x2, ()))).trans (by kernel_rfl)
theorem wEqBridge_k : CallsOk Try.prog gls gvs 29 wEqBridge_g := FnD.ok (F := wEqBridge_F) (cs := wEqBridge_c) V_ok (kC wEqClient_k (kC wEqStringS_k kN)) Try.func29 (by decide) (by kernel_rfl)
-- laws.markPointS
noncomputable def wMarkPointS_F : FnD := { f := 70, fn := Try.f70, ps := [⟨(.sl TPoint), (.own 1 .sh), true, false, none⟩, pa (.int .i64)], rs := [rt (.int .i64)], cuts := [(2, [.val 0 (.sl TPoint) (.own 1 .sh), .val 1 (.int .i64) .sh, .val 5 (.int .i64) .sh])] }
noncomputable def wMarkPointS_c : List (Nat × Sig) := []
noncomputable def wMarkPointS_d : (List tPoint) × Int × Unit → Option ((Int × Unit) × (List tPoint) × Unit) := wMarkPointS_F.d V wMarkPointS_c
noncomputable abbrev wMarkPointS_g : Sig := wMarkPointS_F.t.sig wMarkPointS_d
noncomputable def wMarkPointS_D2 : (List tPoint) × Int × Int × Unit → Option ((Int × Unit) × (List tPoint) × Unit) := wMarkPointS_F.D V wMarkPointS_c 2
theorem wMarkPointS_b (x1 : (List tPoint)) (x2 : Int) : wMarkPointS_d (x1, (x2, ())) = wMarkPointS_D2 (x1, (x2, ((0 : Int), ()))) := (FnD.eq V wMarkPointS_c wMarkPointS_F (x1, (x2, ()))).trans (by kernel_rfl)
theorem wMarkPointS_q2 (x1 : (List tPoint)) (x2 : Int) (x3 : Int) : wMarkPointS_D2 (x1, (x2, (x3, ()))) = cnd (ilt x3 (len x1)) (cnd (inb x3 (len x1)) (cnd (inb x3 (len (upd x1 x3 (x2, (rd zPoint x1 x3).2)))) (cnd (nz (3 : Int)) (cnd (inb x3 (len (upd (upd x1 x3 (x2, (rd zPoint x1 x3).2)) x3 ((rd zPoint (upd x1 x3 (x2, (rd zPoint x1 x3).2)) x3).1, ((iadd .i64 x2 (1 : Int)), (rd zPoint (upd x1 x3 (x2, (rd zPoint x1 x3).2)) x3).2.2))))) (wMarkPointS_D2 ((upd (upd (upd x1 x3 (x2, (rd zPoint x1 x3).2)) x3 ((rd zPoint (upd x1 x3 (x2, (rd zPoint x1 x3).2)) x3).1, ((iadd .i64 x2 (1 : Int)), (rd zPoint (upd x1 x3 (x2, (rd zPoint x1 x3).2)) x3).2.2))) x3 ((rd zPoint (upd (upd x1 x3 (x2, (rd zPoint x1 x3).2)) x3 ((rd zPoint (upd x1 x3 (x2, (rd zPoint x1 x3).2)) x3).1, ((iadd .i64 x2 (1 : Int)), (rd zPoint (upd x1 x3 (x2, (rd zPoint x1 x3).2)) x3).2.2))) x3).1, ((rd zPoint (upd (upd x1 x3 (x2, (rd zPoint x1 x3).2)) x3 ((rd zPoint (upd x1 x3 (x2, (rd zPoint x1 x3).2)) x3).1, ((iadd .i64 x2 (1 : Int)), (rd zPoint (upd x1 x3 (x2, (rd zPoint x1 x3).2)) x3).2.2))) x3).2.1, ((ieq (irem (iadd .i64 (iadd .i64 x2 (1 : Int)) (1 : Int)) (3 : Int)) (0 : Int)), (rd zPoint (upd (upd x1 x3 (x2, (rd zPoint x1 x3).2)) x3 ((rd zPoint (upd x1 x3 (x2, (rd zPoint x1 x3).2)) x3).1, ((iadd .i64 x2 (1 : Int)), (rd zPoint (upd x1 x3 (x2, (rd zPoint x1 x3).2)) x3).2.2))) x3).2.2.2)))), ((iadd .i64 (iadd .i64 (iadd .i64 x2 (1 : Int)) (1 : Int)) (1 : Int)), ((iadd .i64 x3 (1 : Int)), ())))) none) none) none) none) (some ((x2, ()), (x1, ()))) := (FnD.eqC V wMarkPointS_c wMarkPointS_F 2 (x1, (x2, (x3, ())))).trans (by kernel_rfl)
theorem wMarkPointS_k : CallsOk Try.prog gls gvs 70 wMarkPointS_g := FnD.ok (F := wMarkPointS_F) (cs := wMarkPointS_c) V_ok kN Try.func70 (by decide) (by kernel_rfl)
-- laws.markCommittee
noncomputable def wMarkCommittee_F : FnD := { f := 39, fn := Try.f39, ps := [⟨TCommittee, (.pr (.own 1 .sh) .sh), true, false, some 2⟩, pa (.int .i64)], rs := [rt (.int .i64)] }
noncomputable def wMarkCommittee_c : List (Nat × Sig) := [(70, wMarkPointS_g)]
noncomputable def wMarkCommittee_d : tCommittee × Int × Unit → Option ((Int × Unit) × tCommittee × Unit) := wMarkCommittee_F.d V wMarkCommittee_c
noncomputable abbrev wMarkCommittee_g : Sig := wMarkCommittee_F.t.sig wMarkCommittee_d
theorem wMarkCommittee_b (x1 : tCommittee) (x2 : Int) : wMarkCommittee_d (x1, (x2, ())) = bnd (wMarkPointS_d (x1.1, (x2, ()))) (fun r2 => (some ((r2.1.1, ()), ((r2.2.1, x1.2), ())))) := (FnD.eq V wMarkCommittee_c wMarkCommittee_F (x1, (x2, ()))).trans (by kernel_rfl)
theorem wMarkCommittee_k : CallsOk Try.prog gls gvs 39 wMarkCommittee_g := FnD.ok (F := wMarkCommittee_F) (cs := wMarkCommittee_c) V_ok (kC wMarkPointS_k kN) Try.func39 (by decide) (by kernel_rfl)
-- laws.markKeys
noncomputable def wMarkKeys_F : FnD := { f := 89, fn := Try.f89, ps := [⟨TKeys, (.pr .sh (.pr .sh (.pr .sh (.pr .sh (.pr (.own 1 .sh) .sh))))), true, false, some 2⟩, pa (.int .i64)], rs := [rt (.int .i64)] }
noncomputable def wMarkKeys_c : List (Nat × Sig) := [(70, wMarkPointS_g)]
noncomputable def wMarkKeys_d : tKeys × Int × Unit → Option ((Int × Unit) × tKeys × Unit) := wMarkKeys_F.d V wMarkKeys_c
noncomputable abbrev wMarkKeys_g : Sig := wMarkKeys_F.t.sig wMarkKeys_d
theorem wMarkKeys_b (x1 : tKeys) (x2 : Int) : wMarkKeys_d (x1, (x2, ())) = bnd (wMarkPointS_d (x1.2.2.2.2.1, (x2, ()))) (fun r2 => (some ((r2.1.1, ()), ((x1.1, (x1.2.1, (x1.2.2.1, (x1.2.2.2.1, (r2.2.1, x1.2.2.2.2.2))))), ())))) := (FnD.eq V wMarkKeys_c wMarkKeys_F (x1, (x2, ()))).trans (by kernel_rfl)
theorem wMarkKeys_k : CallsOk Try.prog gls gvs 89 wMarkKeys_g := FnD.ok (F := wMarkKeys_F) (cs := wMarkKeys_c) V_ok (kC wMarkPointS_k kN) Try.func89 (by decide) (by kernel_rfl)
-- laws.markClient
noncomputable def wMarkClient_F : FnD := { f := 59, fn := Try.f59, ps := [⟨TClient, (.pr .sh (.pr (.pr (.own 1 .sh) .sh) (.pr (.pr (.own 2 .sh) .sh) (.pr .sh (.pr (.pr .sh (.pr .sh (.pr .sh (.pr .sh (.pr (.own 3 .sh) .sh))))) .sh))))), true, false, some 2⟩, pa (.int .i64)], rs := [rt (.int .i64)] }
noncomputable def wMarkClient_c : List (Nat × Sig) := [(39, wMarkCommittee_g), (89, wMarkKeys_g)]
noncomputable def wMarkClient_d : tClient × Int × Unit → Option ((Int × Unit) × tClient × Unit) := wMarkClient_F.d V wMarkClient_c
noncomputable abbrev wMarkClient_g : Sig := wMarkClient_F.t.sig wMarkClient_d
theorem wMarkClient_b (x1 : tClient) (x2 : Int) : wMarkClient_d (x1, (x2, ())) = bnd (wMarkCommittee_d (x1.2.1, (x2, ()))) (fun r2 => (bnd (wMarkCommittee_d (x1.2.2.1, (r2.1.1, ()))) (fun r3 => (bnd (wMarkKeys_d (x1.2.2.2.2.1, (r3.1.1, ()))) (fun r4 => (some ((r4.1.1, ()), ((x1.1, ((r2.2.1.1, x1.2.1.2), ((r3.2.1.1, x1.2.2.1.2), (x1.2.2.2.1, (((x1.2.2.2.2.1.1.1, (x1.2.2.2.2.1.1.2.1, (x1.2.2.2.2.1.1.2.2.1, x1.2.2.2.2.1.1.2.2.2))), ((x1.2.2.2.2.1.2.1.1, (x1.2.2.2.2.1.2.1.2.1, (x1.2.2.2.2.1.2.1.2.2.1, x1.2.2.2.2.1.2.1.2.2.2))), ((x1.2.2.2.2.1.2.2.1.1, (x1.2.2.2.2.1.2.2.1.2.1, (x1.2.2.2.2.1.2.2.1.2.2.1, x1.2.2.2.2.1.2.2.1.2.2.2))), ((x1.2.2.2.2.1.2.2.2.1.1, (x1.2.2.2.2.1.2.2.2.1.2.1, (x1.2.2.2.2.1.2.2.2.1.2.2.1, x1.2.2.2.2.1.2.2.2.1.2.2.2))), (r4.2.1.2.2.2.2.1, x1.2.2.2.2.1.2.2.2.2.2))))), x1.2.2.2.2.2))))), ())))))))) := (FnD.eq V wMarkClient_c wMarkClient_F (x1, (x2, ()))).trans (by kernel_rfl)
theorem wMarkClient_k : CallsOk Try.prog gls gvs 59 wMarkClient_g := FnD.ok (F := wMarkClient_F) (cs := wMarkClient_c) V_ok (kC wMarkCommittee_k (kC wMarkKeys_k kN)) Try.func59 (by decide) (by kernel_rfl)
-- laws.markStringS
noncomputable def wMarkStringS_F : FnD := { f := 60, fn := Try.f60, ps := [⟨(.sl .str), (.own 1 .sh), true, false, none⟩, pa (.int .i64)], rs := [rt (.int .i64)], cuts := [(2, [.val 0 (.sl .str) (.own 1 .sh), .val 1 (.int .i64) .sh, .val 5 (.int .i64) .sh])] }
noncomputable def wMarkStringS_c : List (Nat × Sig) := [(48, wMarkText_g)]
noncomputable def wMarkStringS_d : (List ByteArray) × Int × Unit → Option ((Int × Unit) × (List ByteArray) × Unit) := wMarkStringS_F.d V wMarkStringS_c
noncomputable abbrev wMarkStringS_g : Sig := wMarkStringS_F.t.sig wMarkStringS_d
noncomputable def wMarkStringS_D2 : (List ByteArray) × Int × Int × Unit → Option ((Int × Unit) × (List ByteArray) × Unit) := wMarkStringS_F.D V wMarkStringS_c 2
theorem wMarkStringS_b (x1 : (List ByteArray)) (x2 : Int) : wMarkStringS_d (x1, (x2, ())) = wMarkStringS_D2 (x1, (x2, ((0 : Int), ()))) := (FnD.eq V wMarkStringS_c wMarkStringS_F (x1, (x2, ()))).trans (by kernel_rfl)
theorem wMarkStringS_q2 (x1 : (List ByteArray)) (x2 : Int) (x3 : Int) : wMarkStringS_D2 (x1, (x2, (x3, ()))) = cnd (ilt x3 (len x1)) (bnd (wMarkText_d (x2, ())) (fun r3 => (cnd (inb x3 (len x1)) (wMarkStringS_D2 ((upd x1 x3 r3.1.1), ((iadd .i64 x2 (1 : Int)), ((iadd .i64 x3 (1 : Int)), ())))) none))) (some ((x2, ()), (x1, ()))) := (FnD.eqC V wMarkStringS_c wMarkStringS_F 2 (x1, (x2, (x3, ())))).trans (by kernel_rfl)
theorem wMarkStringS_k : CallsOk Try.prog gls gvs 60 wMarkStringS_g := FnD.ok (F := wMarkStringS_F) (cs := wMarkStringS_c) V_ok (kC wMarkText_k kN) Try.func60 (by decide) (by kernel_rfl)
-- laws.markBridge
noncomputable def wMarkBridge_F : FnD := { f := 30, fn := Try.f30, ps := [⟨TBridge, (.pr (.pr .sh (.pr (.pr (.own 1 .sh) .sh) (.pr (.pr (.own 2 .sh) .sh) (.pr .sh (.pr (.pr .sh (.pr .sh (.pr .sh (.pr .sh (.pr (.own 3 .sh) .sh))))) .sh))))) (.pr (.pr .sh (.pr (.pr (.own 4 .sh) .sh) (.pr (.pr (.own 5 .sh) .sh) (.pr .sh (.pr (.pr .sh (.pr .sh (.pr .sh (.pr .sh (.pr (.own 6 .sh) .sh))))) .sh))))) (.pr .sh (.pr .sh (.pr (.own 7 .sh) .sh))))), true, false, some 2⟩, pa (.int .i64)], rs := [rt (.int .i64)] }
noncomputable def wMarkBridge_c : List (Nat × Sig) := [(59, wMarkClient_g), (60, wMarkStringS_g)]
noncomputable def wMarkBridge_d : tBridge × Int × Unit → Option ((Int × Unit) × tBridge × Unit) := wMarkBridge_F.d V wMarkBridge_c
noncomputable abbrev wMarkBridge_g : Sig := wMarkBridge_F.t.sig wMarkBridge_d
theorem wMarkBridge_b (x1 : tBridge) (x2 : Int) : wMarkBridge_d (x1, (x2, ())) = bnd (wMarkClient_d (x1.1, (x2, ()))) (fun r2 => (bnd (wMarkClient_d (x1.2.1, (r2.1.1, ()))) (fun r3 => (bnd (wMarkStringS_d (x1.2.2.2.2.1, (r3.1.1, ()))) (fun r4 => (some ((r4.1.1, ()), ((((x1.1.1.1, (x1.1.1.2.1, (x1.1.1.2.2.1, (x1.1.1.2.2.2.1, x1.1.1.2.2.2.2)))), ((r2.2.1.2.1.1, x1.1.2.1.2), ((r2.2.1.2.2.1.1, x1.1.2.2.1.2), (x1.1.2.2.2.1, (((x1.1.2.2.2.2.1.1.1, (x1.1.2.2.2.2.1.1.2.1, (x1.1.2.2.2.2.1.1.2.2.1, x1.1.2.2.2.2.1.1.2.2.2))), ((x1.1.2.2.2.2.1.2.1.1, (x1.1.2.2.2.2.1.2.1.2.1, (x1.1.2.2.2.2.1.2.1.2.2.1, x1.1.2.2.2.2.1.2.1.2.2.2))), ((x1.1.2.2.2.2.1.2.2.1.1, (x1.1.2.2.2.2.1.2.2.1.2.1, (x1.1.2.2.2.2.1.2.2.1.2.2.1, x1.1.2.2.2.2.1.2.2.1.2.2.2))), ((x1.1.2.2.2.2.1.2.2.2.1.1, (x1.1.2.2.2.2.1.2.2.2.1.2.1, (x1.1.2.2.2.2.1.2.2.2.1.2.2.1, x1.1.2.2.2.2.1.2.2.2.1.2.2.2))), (r2.2.1.2.2.2.2.1.2.2.2.2.1, x1.1.2.2.2.2.1.2.2.2.2.2))))), x1.1.2.2.2.2.2))))), (((x1.2.1.1.1, (x1.2.1.1.2.1, (x1.2.1.1.2.2.1, (x1.2.1.1.2.2.2.1, x1.2.1.1.2.2.2.2)))), ((r3.2.1.2.1.1, x1.2.1.2.1.2), ((r3.2.1.2.2.1.1, x1.2.1.2.2.1.2), (x1.2.1.2.2.2.1, (((x1.2.1.2.2.2.2.1.1.1, (x1.2.1.2.2.2.2.1.1.2.1, (x1.2.1.2.2.2.2.1.1.2.2.1, x1.2.1.2.2.2.2.1.1.2.2.2))), ((x1.2.1.2.2.2.2.1.2.1.1, (x1.2.1.2.2.2.2.1.2.1.2.1, (x1.2.1.2.2.2.2.1.2.1.2.2.1, x1.2.1.2.2.2.2.1.2.1.2.2.2))), ((x1.2.1.2.2.2.2.1.2.2.1.1, (x1.2.1.2.2.2.2.1.2.2.1.2.1, (x1.2.1.2.2.2.2.1.2.2.1.2.2.1, x1.2.1.2.2.2.2.1.2.2.1.2.2.2))), ((x1.2.1.2.2.2.2.1.2.2.2.1.1, (x1.2.1.2.2.2.2.1.2.2.2.1.2.1, (x1.2.1.2.2.2.2.1.2.2.2.1.2.2.1, x1.2.1.2.2.2.2.1.2.2.2.1.2.2.2))), (r3.2.1.2.2.2.2.1.2.2.2.2.1, x1.2.1.2.2.2.2.1.2.2.2.2.2))))), x1.2.1.2.2.2.2.2))))), (x1.2.2.1, (x1.2.2.2.1, (r4.2.1, x1.2.2.2.2.2))))), ())))))))) := (FnD.eq V wMarkBridge_c wMarkBridge_F (x1, (x2, ()))).trans (by kernel_rfl)
theorem wMarkBridge_k : CallsOk Try.prog gls gvs 30 wMarkBridge_g := FnD.ok (F := wMarkBridge_F) (cs := wMarkBridge_c) V_ok (kC wMarkClient_k (kC wMarkStringS_k kN)) Try.func30 (by decide) (by kernel_rfl)
-- laws.heldPointS
noncomputable def wHeldPointS_F : FnD := { f := 71, fn := Try.f71, ps := [pa (.sl TPoint), pa (.int .i64)], rs := [rt (.int .i64)], cuts := [(2, [.val 0 (.sl TPoint) .sh, .val 1 (.int .i64) .sh, .val 5 (.int .i64) .sh])] }
noncomputable def wHeldPointS_c : List (Nat × Sig) := []
noncomputable def wHeldPointS_d : (List tPoint) × Int × Unit → Option ((Int × Unit) × Unit) := wHeldPointS_F.d V wHeldPointS_c
noncomputable abbrev wHeldPointS_g : Sig := wHeldPointS_F.t.sig wHeldPointS_d
noncomputable def wHeldPointS_D2 : (List tPoint) × Int × Int × Unit → Option ((Int × Unit) × Unit) := wHeldPointS_F.D V wHeldPointS_c 2
theorem wHeldPointS_b (x1 : (List tPoint)) (x2 : Int) : wHeldPointS_d (x1, (x2, ())) = wHeldPointS_D2 (x1, (x2, ((0 : Int), ()))) := (FnD.eq V wHeldPointS_c wHeldPointS_F (x1, (x2, ()))).trans (by kernel_rfl)
theorem wHeldPointS_q2 (x1 : (List tPoint)) (x2 : Int) (x3 : Int) : wHeldPointS_D2 (x1, (x2, (x3, ()))) = cnd (ilt x3 (len x1)) (cnd (inb x3 (len x1)) (cnd (ine (rd zPoint x1 x3).1 x2) (some (((-1 : Int), ()), ())) (cnd (inb x3 (len x1)) (cnd (ine (rd zPoint x1 x3).2.1 (iadd .i64 x2 (1 : Int))) (some (((-1 : Int), ()), ())) (cnd (inb x3 (len x1)) (cnd (nz (3 : Int)) (cnd (bneB (rd zPoint x1 x3).2.2.1 (ieq (irem (iadd .i64 (iadd .i64 x2 (1 : Int)) (1 : Int)) (3 : Int)) (0 : Int))) (some (((-1 : Int), ()), ())) (wHeldPointS_D2 (x1, ((iadd .i64 (iadd .i64 (iadd .i64 x2 (1 : Int)) (1 : Int)) (1 : Int)), ((iadd .i64 x3 (1 : Int)), ()))))) none) none)) none)) none) (some ((x2, ()), ())) := (FnD.eqC V wHeldPointS_c wHeldPointS_F 2 (x1, (x2, (x3, ())))).trans (by kernel_rfl)
theorem wHeldPointS_k : CallsOk Try.prog gls gvs 71 wHeldPointS_g := FnD.ok (F := wHeldPointS_F) (cs := wHeldPointS_c) V_ok kN Try.func71 (by decide) (by kernel_rfl)
-- laws.heldCommittee
noncomputable def wHeldCommittee_F : FnD := { f := 40, fn := Try.f40, ps := [pa TCommittee, pa (.int .i64)], rs := [rt (.int .i64)] }
noncomputable def wHeldCommittee_c : List (Nat × Sig) := [(71, wHeldPointS_g)]
noncomputable def wHeldCommittee_d : tCommittee × Int × Unit → Option ((Int × Unit) × Unit) := wHeldCommittee_F.d V wHeldCommittee_c
noncomputable abbrev wHeldCommittee_g : Sig := wHeldCommittee_F.t.sig wHeldCommittee_d
theorem wHeldCommittee_b (x1 : tCommittee) (x2 : Int) : wHeldCommittee_d (x1, (x2, ())) = bnd (wHeldPointS_d (x1.1, (x2, ()))) (fun r2 => (cnd (ilt r2.1.1 (0 : Int)) (some (((-1 : Int), ()), ())) (some ((r2.1.1, ()), ())))) := (FnD.eq V wHeldCommittee_c wHeldCommittee_F (x1, (x2, ()))).trans (by kernel_rfl)
theorem wHeldCommittee_k : CallsOk Try.prog gls gvs 40 wHeldCommittee_g := FnD.ok (F := wHeldCommittee_F) (cs := wHeldCommittee_c) V_ok (kC wHeldPointS_k kN) Try.func40 (by decide) (by kernel_rfl)
-- laws.heldKeys
noncomputable def wHeldKeys_F : FnD := { f := 90, fn := Try.f90, ps := [pa TKeys, pa (.int .i64)], rs := [rt (.int .i64)] }
noncomputable def wHeldKeys_c : List (Nat × Sig) := [(71, wHeldPointS_g)]
noncomputable def wHeldKeys_d : tKeys × Int × Unit → Option ((Int × Unit) × Unit) := wHeldKeys_F.d V wHeldKeys_c
noncomputable abbrev wHeldKeys_g : Sig := wHeldKeys_F.t.sig wHeldKeys_d
theorem wHeldKeys_b (x1 : tKeys) (x2 : Int) : wHeldKeys_d (x1, (x2, ())) = bnd (wHeldPointS_d (x1.2.2.2.2.1, (x2, ()))) (fun r2 => (cnd (ilt r2.1.1 (0 : Int)) (some (((-1 : Int), ()), ())) (some ((r2.1.1, ()), ())))) := (FnD.eq V wHeldKeys_c wHeldKeys_F (x1, (x2, ()))).trans (by kernel_rfl)
theorem wHeldKeys_k : CallsOk Try.prog gls gvs 90 wHeldKeys_g := FnD.ok (F := wHeldKeys_F) (cs := wHeldKeys_c) V_ok (kC wHeldPointS_k kN) Try.func90 (by decide) (by kernel_rfl)
-- laws.heldClient
noncomputable def wHeldClient_F : FnD := { f := 61, fn := Try.f61, ps := [pa TClient, pa (.int .i64)], rs := [rt (.int .i64)] }
noncomputable def wHeldClient_c : List (Nat × Sig) := [(40, wHeldCommittee_g), (90, wHeldKeys_g)]
noncomputable def wHeldClient_d : tClient × Int × Unit → Option ((Int × Unit) × Unit) := wHeldClient_F.d V wHeldClient_c
noncomputable abbrev wHeldClient_g : Sig := wHeldClient_F.t.sig wHeldClient_d
theorem wHeldClient_b (x1 : tClient) (x2 : Int) : wHeldClient_d (x1, (x2, ())) = bnd (wHeldCommittee_d (x1.2.1, (x2, ()))) (fun r2 => (cnd (ilt r2.1.1 (0 : Int)) (some (((-1 : Int), ()), ())) (bnd (wHeldCommittee_d (x1.2.2.1, (r2.1.1, ()))) (fun r3 => (cnd (ilt r3.1.1 (0 : Int)) (some (((-1 : Int), ()), ())) (bnd (wHeldKeys_d (x1.2.2.2.2.1, (r3.1.1, ()))) (fun r4 => (cnd (ilt r4.1.1 (0 : Int)) (some (((-1 : Int), ()), ())) (some ((r4.1.1, ()), ())))))))))) := (FnD.eq V wHeldClient_c wHeldClient_F (x1, (x2, ()))).trans (by kernel_rfl)
theorem wHeldClient_k : CallsOk Try.prog gls gvs 61 wHeldClient_g := FnD.ok (F := wHeldClient_F) (cs := wHeldClient_c) V_ok (kC wHeldCommittee_k (kC wHeldKeys_k kN)) Try.func61 (by decide) (by kernel_rfl)
-- laws.heldStringS
noncomputable def wHeldStringS_F : FnD := { f := 62, fn := Try.f62, ps := [pa (.sl .str), pa (.int .i64)], rs := [rt (.int .i64)], cuts := [(2, [.val 0 (.sl .str) .sh, .val 1 (.int .i64) .sh, .val 5 (.int .i64) .sh])] }
noncomputable def wHeldStringS_c : List (Nat × Sig) := [(48, wMarkText_g)]
noncomputable def wHeldStringS_d : (List ByteArray) × Int × Unit → Option ((Int × Unit) × Unit) := wHeldStringS_F.d V wHeldStringS_c
noncomputable abbrev wHeldStringS_g : Sig := wHeldStringS_F.t.sig wHeldStringS_d
noncomputable def wHeldStringS_D2 : (List ByteArray) × Int × Int × Unit → Option ((Int × Unit) × Unit) := wHeldStringS_F.D V wHeldStringS_c 2
theorem wHeldStringS_b (x1 : (List ByteArray)) (x2 : Int) : wHeldStringS_d (x1, (x2, ())) = wHeldStringS_D2 (x1, (x2, ((0 : Int), ()))) := (FnD.eq V wHeldStringS_c wHeldStringS_F (x1, (x2, ()))).trans (by kernel_rfl)
theorem wHeldStringS_q2 (x1 : (List ByteArray)) (x2 : Int) (x3 : Int) : wHeldStringS_D2 (x1, (x2, (x3, ()))) = cnd (ilt x3 (len x1)) (cnd (inb x3 (len x1)) (bnd (wMarkText_d (x2, ())) (fun r3 => (cnd (sne (rd (bs []) x1 x3) r3.1.1) (some (((-1 : Int), ()), ())) (wHeldStringS_D2 (x1, ((iadd .i64 x2 (1 : Int)), ((iadd .i64 x3 (1 : Int)), ()))))))) none) (some ((x2, ()), ())) := (FnD.eqC V wHeldStringS_c wHeldStringS_F 2 (x1, (x2, (x3, ())))).trans (by kernel_rfl)
theorem wHeldStringS_k : CallsOk Try.prog gls gvs 62 wHeldStringS_g := FnD.ok (F := wHeldStringS_F) (cs := wHeldStringS_c) V_ok (kC wMarkText_k kN) Try.func62 (by decide) (by kernel_rfl)
-- laws.heldBridge
noncomputable def wHeldBridge_F : FnD := { f := 31, fn := Try.f31, ps := [pa TBridge, pa (.int .i64)], rs := [rt (.int .i64)] }
noncomputable def wHeldBridge_c : List (Nat × Sig) := [(61, wHeldClient_g), (62, wHeldStringS_g)]
noncomputable def wHeldBridge_d : tBridge × Int × Unit → Option ((Int × Unit) × Unit) := wHeldBridge_F.d V wHeldBridge_c
noncomputable abbrev wHeldBridge_g : Sig := wHeldBridge_F.t.sig wHeldBridge_d
theorem wHeldBridge_b (x1 : tBridge) (x2 : Int) : wHeldBridge_d (x1, (x2, ())) = bnd (wHeldClient_d (x1.1, (x2, ()))) (fun r2 => (cnd (ilt r2.1.1 (0 : Int)) (some (((-1 : Int), ()), ())) (bnd (wHeldClient_d (x1.2.1, (r2.1.1, ()))) (fun r3 => (cnd (ilt r3.1.1 (0 : Int)) (some (((-1 : Int), ()), ())) (bnd (wHeldStringS_d (x1.2.2.2.2.1, (r3.1.1, ()))) (fun r4 => (cnd (ilt r4.1.1 (0 : Int)) (some (((-1 : Int), ()), ())) (some ((r4.1.1, ()), ())))))))))) := (FnD.eq V wHeldBridge_c wHeldBridge_F (x1, (x2, ()))).trans (by kernel_rfl)
theorem wHeldBridge_k : CallsOk Try.prog gls gvs 31 wHeldBridge_g := FnD.ok (F := wHeldBridge_F) (cs := wHeldBridge_c) V_ok (kC wHeldClient_k (kC wHeldStringS_k kN)) Try.func31 (by decide) (by kernel_rfl)
-- laws.FnExactSave
noncomputable def wFnExactSave_F : FnD := { f := 6, fn := Try.f6, ps := [pa TBridge], rs := [rt .bool] }
noncomputable def wFnExactSave_c : List (Nat × Sig) := [(25, wSzBridge_g), (27, wToBridge_g), (26, sSave_g), (28, iSave_g), (29, wEqBridge_g), (30, wMarkBridge_g), (31, wHeldBridge_g)]
noncomputable def wFnExactSave_d : tBridge × Unit → Option ((Bool × Unit) × Unit) := wFnExactSave_F.d V wFnExactSave_c
noncomputable abbrev wFnExactSave_g : Sig := wFnExactSave_F.t.sig wFnExactSave_d
theorem wFnExactSave_b (x1 : tBridge) : wFnExactSave_d (x1, ()) = bnd (wSzBridge_d (x1, ((1048576 : Int), ()))) (fun r1 => (cnd (ilt r1.1.1 (0 : Int)) (some ((true, ()), ())) (bnd (wToBridge_d (x1, ())) (fun r2 => (bnd (sSave_d (r2.1.1, ())) (fun r3 => (bnd (wToBridge_d (x1, ())) (fun r4 => (bnd (iSave_d (r4.1.1, ())) (fun r5 => (bnd (wEqBridge_d (r5.1.1, (r3.1.1, ()))) (fun r6 => (cnd (bnot r6.1.1) (some ((false, ()), ())) (bnd (wToBridge_d (x1, ())) (fun r7 => (bnd (wEqBridge_d (r4.1.1, (r7.1.1, ()))) (fun r8 => (cnd (bnot r8.1.1) (some ((false, ()), ())) (bnd (wMarkBridge_d (r4.1.1, ((1 : Int), ()))) (fun r9 => (cnd (ilt r9.1.1 (0 : Int)) (some ((false, ()), ())) (bnd (wEqBridge_d (r5.1.1, (r3.1.1, ()))) (fun r10 => (cnd (bnot r10.1.1) (some ((false, ()), ())) (bnd (wMarkBridge_d (r5.1.1, ((1 : Int), ()))) (fun r11 => (bnd (wHeldBridge_d ((((r5.1.1.1.1.1, (r5.1.1.1.1.2.1, (r5.1.1.1.1.2.2.1, (r5.1.1.1.1.2.2.2.1, r5.1.1.1.1.2.2.2.2)))), ((r11.2.1.1.2.1.1, r5.1.1.1.2.1.2), ((r11.2.1.1.2.2.1.1, r5.1.1.1.2.2.1.2), (r5.1.1.1.2.2.2.1, (((r5.1.1.1.2.2.2.2.1.1.1, (r5.1.1.1.2.2.2.2.1.1.2.1, (r5.1.1.1.2.2.2.2.1.1.2.2.1, r5.1.1.1.2.2.2.2.1.1.2.2.2))), ((r5.1.1.1.2.2.2.2.1.2.1.1, (r5.1.1.1.2.2.2.2.1.2.1.2.1, (r5.1.1.1.2.2.2.2.1.2.1.2.2.1, r5.1.1.1.2.2.2.2.1.2.1.2.2.2))), ((r5.1.1.1.2.2.2.2.1.2.2.1.1, (r5.1.1.1.2.2.2.2.1.2.2.1.2.1, (r5.1.1.1.2.2.2.2.1.2.2.1.2.2.1, r5.1.1.1.2.2.2.2.1.2.2.1.2.2.2))), ((r5.1.1.1.2.2.2.2.1.2.2.2.1.1, (r5.1.1.1.2.2.2.2.1.2.2.2.1.2.1, (r5.1.1.1.2.2.2.2.1.2.2.2.1.2.2.1, r5.1.1.1.2.2.2.2.1.2.2.2.1.2.2.2))), (r11.2.1.1.2.2.2.2.1.2.2.2.2.1, r5.1.1.1.2.2.2.2.1.2.2.2.2.2))))), r5.1.1.1.2.2.2.2.2))))), (((r5.1.1.2.1.1.1, (r5.1.1.2.1.1.2.1, (r5.1.1.2.1.1.2.2.1, (r5.1.1.2.1.1.2.2.2.1, r5.1.1.2.1.1.2.2.2.2)))), ((r11.2.1.2.1.2.1.1, r5.1.1.2.1.2.1.2), ((r11.2.1.2.1.2.2.1.1, r5.1.1.2.1.2.2.1.2), (r5.1.1.2.1.2.2.2.1, (((r5.1.1.2.1.2.2.2.2.1.1.1, (r5.1.1.2.1.2.2.2.2.1.1.2.1, (r5.1.1.2.1.2.2.2.2.1.1.2.2.1, r5.1.1.2.1.2.2.2.2.1.1.2.2.2))), ((r5.1.1.2.1.2.2.2.2.1.2.1.1, (r5.1.1.2.1.2.2.2.2.1.2.1.2.1, (r5.1.1.2.1.2.2.2.2.1.2.1.2.2.1, r5.1.1.2.1.2.2.2.2.1.2.1.2.2.2))), ((r5.1.1.2.1.2.2.2.2.1.2.2.1.1, (r5.1.1.2.1.2.2.2.2.1.2.2.1.2.1, (r5.1.1.2.1.2.2.2.2.1.2.2.1.2.2.1, r5.1.1.2.1.2.2.2.2.1.2.2.1.2.2.2))), ((r5.1.1.2.1.2.2.2.2.1.2.2.2.1.1, (r5.1.1.2.1.2.2.2.2.1.2.2.2.1.2.1, (r5.1.1.2.1.2.2.2.2.1.2.2.2.1.2.2.1, r5.1.1.2.1.2.2.2.2.1.2.2.2.1.2.2.2))), (r11.2.1.2.1.2.2.2.2.1.2.2.2.2.1, r5.1.1.2.1.2.2.2.2.1.2.2.2.2.2))))), r5.1.1.2.1.2.2.2.2.2))))), (r5.1.1.2.2.1, (r5.1.1.2.2.2.1, (r11.2.1.2.2.2.2.1, (r5.1.1.2.2.2.2.2.1, r5.1.1.2.2.2.2.2.2)))))), ((1 : Int), ()))) (fun r12 => (cnd (ilt r12.1.1 (0 : Int)) (some ((false, ()), ())) (cnd (ine r12.1.1 r11.1.1) (some ((false, ()), ())) (bnd (wToBridge_d (x1, ())) (fun r13 => (bnd (iSave_d (r13.1.1, ())) (fun r14 => (bnd (wEqBridge_d (r14.1.1, (r3.1.1, ()))) (fun r15 => (cnd (bnot r15.1.1) (some ((false, ()), ())) (bnd (wHeldBridge_d ((((r5.1.1.1.1.1, (r5.1.1.1.1.2.1, (r5.1.1.1.1.2.2.1, (r5.1.1.1.1.2.2.2.1, r5.1.1.1.1.2.2.2.2)))), ((r11.2.1.1.2.1.1, r5.1.1.1.2.1.2), ((r11.2.1.1.2.2.1.1, r5.1.1.1.2.2.1.2), (r5.1.1.1.2.2.2.1, (((r5.1.1.1.2.2.2.2.1.1.1, (r5.1.1.1.2.2.2.2.1.1.2.1, (r5.1.1.1.2.2.2.2.1.1.2.2.1, r5.1.1.1.2.2.2.2.1.1.2.2.2))), ((r5.1.1.1.2.2.2.2.1.2.1.1, (r5.1.1.1.2.2.2.2.1.2.1.2.1, (r5.1.1.1.2.2.2.2.1.2.1.2.2.1, r5.1.1.1.2.2.2.2.1.2.1.2.2.2))), ((r5.1.1.1.2.2.2.2.1.2.2.1.1, (r5.1.1.1.2.2.2.2.1.2.2.1.2.1, (r5.1.1.1.2.2.2.2.1.2.2.1.2.2.1, r5.1.1.1.2.2.2.2.1.2.2.1.2.2.2))), ((r5.1.1.1.2.2.2.2.1.2.2.2.1.1, (r5.1.1.1.2.2.2.2.1.2.2.2.1.2.1, (r5.1.1.1.2.2.2.2.1.2.2.2.1.2.2.1, r5.1.1.1.2.2.2.2.1.2.2.2.1.2.2.2))), (r11.2.1.1.2.2.2.2.1.2.2.2.2.1, r5.1.1.1.2.2.2.2.1.2.2.2.2.2))))), r5.1.1.1.2.2.2.2.2))))), (((r5.1.1.2.1.1.1, (r5.1.1.2.1.1.2.1, (r5.1.1.2.1.1.2.2.1, (r5.1.1.2.1.1.2.2.2.1, r5.1.1.2.1.1.2.2.2.2)))), ((r11.2.1.2.1.2.1.1, r5.1.1.2.1.2.1.2), ((r11.2.1.2.1.2.2.1.1, r5.1.1.2.1.2.2.1.2), (r5.1.1.2.1.2.2.2.1, (((r5.1.1.2.1.2.2.2.2.1.1.1, (r5.1.1.2.1.2.2.2.2.1.1.2.1, (r5.1.1.2.1.2.2.2.2.1.1.2.2.1, r5.1.1.2.1.2.2.2.2.1.1.2.2.2))), ((r5.1.1.2.1.2.2.2.2.1.2.1.1, (r5.1.1.2.1.2.2.2.2.1.2.1.2.1, (r5.1.1.2.1.2.2.2.2.1.2.1.2.2.1, r5.1.1.2.1.2.2.2.2.1.2.1.2.2.2))), ((r5.1.1.2.1.2.2.2.2.1.2.2.1.1, (r5.1.1.2.1.2.2.2.2.1.2.2.1.2.1, (r5.1.1.2.1.2.2.2.2.1.2.2.1.2.2.1, r5.1.1.2.1.2.2.2.2.1.2.2.1.2.2.2))), ((r5.1.1.2.1.2.2.2.2.1.2.2.2.1.1, (r5.1.1.2.1.2.2.2.2.1.2.2.2.1.2.1, (r5.1.1.2.1.2.2.2.2.1.2.2.2.1.2.2.1, r5.1.1.2.1.2.2.2.2.1.2.2.2.1.2.2.2))), (r11.2.1.2.1.2.2.2.2.1.2.2.2.2.1, r5.1.1.2.1.2.2.2.2.1.2.2.2.2.2))))), r5.1.1.2.1.2.2.2.2.2))))), (r5.1.1.2.2.1, (r5.1.1.2.2.2.1, (r11.2.1.2.2.2.2.1, (r5.1.1.2.2.2.2.2.1, r5.1.1.2.2.2.2.2.2)))))), ((1 : Int), ()))) (fun r16 => (cnd (ilt r16.1.1 (0 : Int)) (some ((false, ()), ())) (cnd (ine r16.1.1 r11.1.1) (some ((false, ()), ())) (some ((true, ()), ()))))))))))))))))))))))))))))))))))))))))))) := (FnD.eq V wFnExactSave_c wFnExactSave_F (x1, ())).trans (by kernel_rfl)
theorem wFnExactSave_k : CallsOk Try.prog gls gvs 6 wFnExactSave_g := FnD.ok (F := wFnExactSave_F) (cs := wFnExactSave_c) V_ok (kC wSzBridge_k (kC wToBridge_k (kC sSave_k (kC iSave_k (kC wEqBridge_k (kC wMarkBridge_k (kC wHeldBridge_k kN))))))) Try.func6 (by decide) (by kernel_rfl)
-- spec.Tick
noncomputable def sTick_F : FnD := { f := 32, fn := Try.f32, ps := [pa TBridge, pa (.int .i64)], rs := [⟨TBridge, (.pr (.pr .sh (.pr (.pr (.own 0 .sh) .sh) (.pr (.pr (.own 0 .sh) .sh) (.pr .sh (.pr (.pr .sh (.pr .sh (.pr .sh (.pr .sh (.pr (.own 0 .sh) .sh))))) .sh))))) (.pr (.pr .sh (.pr (.pr (.own 0 .sh) .sh) (.pr (.pr (.own 0 .sh) .sh) (.pr .sh (.pr (.pr .sh (.pr .sh (.pr .sh (.pr .sh (.pr (.own 0 .sh) .sh))))) .sh))))) (.pr .sh (.pr .sh (.pr (.own 0 .sh) .sh))))), false⟩, rt .bool] }
noncomputable def sTick_c : List (Nat × Sig) := [(53, sL24Copy_g)]
noncomputable def sTick_d : tBridge × Int × Unit → Option ((tBridge × Bool × Unit) × Unit) := sTick_F.d V sTick_c
noncomputable abbrev sTick_g : Sig := sTick_F.t.sig sTick_d
theorem sTick_b (x1 : tBridge) (x2 : Int) : sTick_d (x1, (x2, ())) = bnd (sL24Copy_d (x1, ())) (fun r2 => (cnd (ilt x2 (0 : Int)) (some ((r2.1.1, (false, ())), ())) (cnd (igt x2 (10000 : Int)) (some ((r2.1.1, (false, ())), ())) (cnd (igt x1.2.2.2.2.2.1 (isub .i64 (10000 : Int) x2)) (some ((r2.1.1, (false, ())), ())) (some (((r2.1.1.1, (r2.1.1.2.1, (r2.1.1.2.2.1, (r2.1.1.2.2.2.1, (r2.1.1.2.2.2.2.1, ((iadd .i64 x1.2.2.2.2.2.1 x2), r2.1.1.2.2.2.2.2.2)))))), (true, ())), ())))))) := (FnD.eq V sTick_c sTick_F (x1, (x2, ()))).trans (by kernel_rfl)
theorem sTick_k : CallsOk Try.prog gls gvs 32 sTick_g := FnD.ok (F := sTick_F) (cs := sTick_c) V_ok (kC sL24Copy_k kN) Try.func32 (by decide) (by kernel_rfl)
-- impl.isSlot
noncomputable def iIsSlot_F : FnD := { f := 63, fn := Try.f63, ps := [pa (.int .i64)], rs := [rt .bool] }
noncomputable def iIsSlot_c : List (Nat × Sig) := []
noncomputable def iIsSlot_d : Int × Unit → Option ((Bool × Unit) × Unit) := iIsSlot_F.d V iIsSlot_c
noncomputable abbrev iIsSlot_g : Sig := iIsSlot_F.t.sig iIsSlot_d
theorem iIsSlot_b (x1 : Int) : iIsSlot_d (x1, ()) = cnd (ige x1 (0 : Int)) (some (((ile x1 (10000 : Int)), ()), ())) (some ((false, ()), ())) := (FnD.eq V iIsSlot_c iIsSlot_F (x1, ())).trans (by kernel_rfl)
theorem iIsSlot_k : CallsOk Try.prog gls gvs 63 iIsSlot_g := FnD.ok (F := iIsSlot_F) (cs := iIsSlot_c) V_ok kN Try.func63 (by decide) (by kernel_rfl)
-- impl.Tick
noncomputable def iTick_F : FnD := { f := 33, fn := Try.f33, ps := [pa TBridge, pa (.int .i64)], rs := [⟨TBridge, (.pr (.pr .sh (.pr (.pr (.own 0 .sh) .sh) (.pr (.pr (.own 0 .sh) .sh) (.pr .sh (.pr (.pr .sh (.pr .sh (.pr .sh (.pr .sh (.pr (.own 0 .sh) .sh))))) .sh))))) (.pr (.pr .sh (.pr (.pr (.own 0 .sh) .sh) (.pr (.pr (.own 0 .sh) .sh) (.pr .sh (.pr (.pr .sh (.pr .sh (.pr .sh (.pr .sh (.pr (.own 0 .sh) .sh))))) .sh))))) (.pr .sh (.pr .sh (.pr (.own 0 .sh) .sh))))), false⟩, rt .bool] }
noncomputable def iTick_c : List (Nat × Sig) := [(56, iCopyBridge_g), (63, iIsSlot_g)]
noncomputable def iTick_d : tBridge × Int × Unit → Option ((tBridge × Bool × Unit) × Unit) := iTick_F.d V iTick_c
noncomputable abbrev iTick_g : Sig := iTick_F.t.sig iTick_d
theorem iTick_b (x1 : tBridge) (x2 : Int) : iTick_d (x1, (x2, ())) = bnd (iCopyBridge_d (x1, ())) (fun r2 => (bnd (iIsSlot_d (x2, ())) (fun r3 => (cnd (bnot r3.1.1) (some ((r2.1.1, (false, ())), ())) (cnd (igt x1.2.2.2.2.2.1 (isub .i64 (10000 : Int) x2)) (some ((r2.1.1, (false, ())), ())) (some (((r2.1.1.1, (r2.1.1.2.1, (r2.1.1.2.2.1, (r2.1.1.2.2.2.1, (r2.1.1.2.2.2.2.1, ((iadd .i64 r2.1.1.2.2.2.2.2.1 x2), r2.1.1.2.2.2.2.2.2)))))), (true, ())), ()))))))) := (FnD.eq V iTick_c iTick_F (x1, (x2, ()))).trans (by kernel_rfl)
theorem iTick_k : CallsOk Try.prog gls gvs 33 iTick_g := FnD.ok (F := iTick_F) (cs := iTick_c) V_ok (kC iCopyBridge_k (kC iIsSlot_k kN)) Try.func33 (by decide) (by kernel_rfl)
-- laws.FnExactTick
noncomputable def wFnExactTick_F : FnD := { f := 7, fn := Try.f7, ps := [pa TBridge, pa (.int .i64)], rs := [rt .bool] }
noncomputable def wFnExactTick_c : List (Nat × Sig) := [(25, wSzBridge_g), (27, wToBridge_g), (32, sTick_g), (33, iTick_g), (29, wEqBridge_g), (30, wMarkBridge_g), (31, wHeldBridge_g)]
noncomputable def wFnExactTick_d : tBridge × Int × Unit → Option ((Bool × Unit) × Unit) := wFnExactTick_F.d V wFnExactTick_c
noncomputable abbrev wFnExactTick_g : Sig := wFnExactTick_F.t.sig wFnExactTick_d
theorem wFnExactTick_b (x1 : tBridge) (x2 : Int) : wFnExactTick_d (x1, (x2, ())) = bnd (wSzBridge_d (x1, ((1048576 : Int), ()))) (fun r2 => (cnd (ilt r2.1.1 (0 : Int)) (some ((true, ()), ())) (bnd (wToBridge_d (x1, ())) (fun r3 => (bnd (sTick_d (r3.1.1, (x2, ()))) (fun r4 => (bnd (wToBridge_d (x1, ())) (fun r5 => (bnd (iTick_d (r5.1.1, (x2, ()))) (fun r6 => (bnd (wEqBridge_d (r6.1.1, (r4.1.1, ()))) (fun r7 => (cnd (bnot r7.1.1) (some ((false, ()), ())) (cnd (bneB r6.1.2.1 r4.1.2.1) (some ((false, ()), ())) (bnd (wToBridge_d (x1, ())) (fun r8 => (bnd (wEqBridge_d (r5.1.1, (r8.1.1, ()))) (fun r9 => (cnd (bnot r9.1.1) (some ((false, ()), ())) (bnd (wMarkBridge_d (r5.1.1, ((1 : Int), ()))) (fun r10 => (cnd (ilt r10.1.1 (0 : Int)) (some ((false, ()), ())) (bnd (wEqBridge_d (r6.1.1, (r4.1.1, ()))) (fun r11 => (cnd (bnot r11.1.1) (some ((false, ()), ())) (cnd (bneB r6.1.2.1 r4.1.2.1) (some ((false, ()), ())) (bnd (wMarkBridge_d (r6.1.1, ((1 : Int), ()))) (fun r12 => (bnd (wHeldBridge_d ((((r6.1.1.1.1.1, (r6.1.1.1.1.2.1, (r6.1.1.1.1.2.2.1, (r6.1.1.1.1.2.2.2.1, r6.1.1.1.1.2.2.2.2)))), ((r12.2.1.1.2.1.1, r6.1.1.1.2.1.2), ((r12.2.1.1.2.2.1.1, r6.1.1.1.2.2.1.2), (r6.1.1.1.2.2.2.1, (((r6.1.1.1.2.2.2.2.1.1.1, (r6.1.1.1.2.2.2.2.1.1.2.1, (r6.1.1.1.2.2.2.2.1.1.2.2.1, r6.1.1.1.2.2.2.2.1.1.2.2.2))), ((r6.1.1.1.2.2.2.2.1.2.1.1, (r6.1.1.1.2.2.2.2.1.2.1.2.1, (r6.1.1.1.2.2.2.2.1.2.1.2.2.1, r6.1.1.1.2.2.2.2.1.2.1.2.2.2))), ((r6.1.1.1.2.2.2.2.1.2.2.1.1, (r6.1.1.1.2.2.2.2.1.2.2.1.2.1, (r6.1.1.1.2.2.2.2.1.2.2.1.2.2.1, r6.1.1.1.2.2.2.2.1.2.2.1.2.2.2))), ((r6.1.1.1.2.2.2.2.1.2.2.2.1.1, (r6.1.1.1.2.2.2.2.1.2.2.2.1.2.1, (r6.1.1.1.2.2.2.2.1.2.2.2.1.2.2.1, r6.1.1.1.2.2.2.2.1.2.2.2.1.2.2.2))), (r12.2.1.1.2.2.2.2.1.2.2.2.2.1, r6.1.1.1.2.2.2.2.1.2.2.2.2.2))))), r6.1.1.1.2.2.2.2.2))))), (((r6.1.1.2.1.1.1, (r6.1.1.2.1.1.2.1, (r6.1.1.2.1.1.2.2.1, (r6.1.1.2.1.1.2.2.2.1, r6.1.1.2.1.1.2.2.2.2)))), ((r12.2.1.2.1.2.1.1, r6.1.1.2.1.2.1.2), ((r12.2.1.2.1.2.2.1.1, r6.1.1.2.1.2.2.1.2), (r6.1.1.2.1.2.2.2.1, (((r6.1.1.2.1.2.2.2.2.1.1.1, (r6.1.1.2.1.2.2.2.2.1.1.2.1, (r6.1.1.2.1.2.2.2.2.1.1.2.2.1, r6.1.1.2.1.2.2.2.2.1.1.2.2.2))), ((r6.1.1.2.1.2.2.2.2.1.2.1.1, (r6.1.1.2.1.2.2.2.2.1.2.1.2.1, (r6.1.1.2.1.2.2.2.2.1.2.1.2.2.1, r6.1.1.2.1.2.2.2.2.1.2.1.2.2.2))), ((r6.1.1.2.1.2.2.2.2.1.2.2.1.1, (r6.1.1.2.1.2.2.2.2.1.2.2.1.2.1, (r6.1.1.2.1.2.2.2.2.1.2.2.1.2.2.1, r6.1.1.2.1.2.2.2.2.1.2.2.1.2.2.2))), ((r6.1.1.2.1.2.2.2.2.1.2.2.2.1.1, (r6.1.1.2.1.2.2.2.2.1.2.2.2.1.2.1, (r6.1.1.2.1.2.2.2.2.1.2.2.2.1.2.2.1, r6.1.1.2.1.2.2.2.2.1.2.2.2.1.2.2.2))), (r12.2.1.2.1.2.2.2.2.1.2.2.2.2.1, r6.1.1.2.1.2.2.2.2.1.2.2.2.2.2))))), r6.1.1.2.1.2.2.2.2.2))))), (r6.1.1.2.2.1, (r6.1.1.2.2.2.1, (r12.2.1.2.2.2.2.1, (r6.1.1.2.2.2.2.2.1, r6.1.1.2.2.2.2.2.2)))))), ((1 : Int), ()))) (fun r13 => (cnd (ilt r13.1.1 (0 : Int)) (some ((false, ()), ())) (cnd (ine r13.1.1 r12.1.1) (some ((false, ()), ())) (bnd (wToBridge_d (x1, ())) (fun r14 => (bnd (iTick_d (r14.1.1, (x2, ()))) (fun r15 => (bnd (wEqBridge_d (r15.1.1, (r4.1.1, ()))) (fun r16 => (cnd (bnot r16.1.1) (some ((false, ()), ())) (cnd (bneB r15.1.2.1 r4.1.2.1) (some ((false, ()), ())) (bnd (wHeldBridge_d ((((r6.1.1.1.1.1, (r6.1.1.1.1.2.1, (r6.1.1.1.1.2.2.1, (r6.1.1.1.1.2.2.2.1, r6.1.1.1.1.2.2.2.2)))), ((r12.2.1.1.2.1.1, r6.1.1.1.2.1.2), ((r12.2.1.1.2.2.1.1, r6.1.1.1.2.2.1.2), (r6.1.1.1.2.2.2.1, (((r6.1.1.1.2.2.2.2.1.1.1, (r6.1.1.1.2.2.2.2.1.1.2.1, (r6.1.1.1.2.2.2.2.1.1.2.2.1, r6.1.1.1.2.2.2.2.1.1.2.2.2))), ((r6.1.1.1.2.2.2.2.1.2.1.1, (r6.1.1.1.2.2.2.2.1.2.1.2.1, (r6.1.1.1.2.2.2.2.1.2.1.2.2.1, r6.1.1.1.2.2.2.2.1.2.1.2.2.2))), ((r6.1.1.1.2.2.2.2.1.2.2.1.1, (r6.1.1.1.2.2.2.2.1.2.2.1.2.1, (r6.1.1.1.2.2.2.2.1.2.2.1.2.2.1, r6.1.1.1.2.2.2.2.1.2.2.1.2.2.2))), ((r6.1.1.1.2.2.2.2.1.2.2.2.1.1, (r6.1.1.1.2.2.2.2.1.2.2.2.1.2.1, (r6.1.1.1.2.2.2.2.1.2.2.2.1.2.2.1, r6.1.1.1.2.2.2.2.1.2.2.2.1.2.2.2))), (r12.2.1.1.2.2.2.2.1.2.2.2.2.1, r6.1.1.1.2.2.2.2.1.2.2.2.2.2))))), r6.1.1.1.2.2.2.2.2))))), (((r6.1.1.2.1.1.1, (r6.1.1.2.1.1.2.1, (r6.1.1.2.1.1.2.2.1, (r6.1.1.2.1.1.2.2.2.1, r6.1.1.2.1.1.2.2.2.2)))), ((r12.2.1.2.1.2.1.1, r6.1.1.2.1.2.1.2), ((r12.2.1.2.1.2.2.1.1, r6.1.1.2.1.2.2.1.2), (r6.1.1.2.1.2.2.2.1, (((r6.1.1.2.1.2.2.2.2.1.1.1, (r6.1.1.2.1.2.2.2.2.1.1.2.1, (r6.1.1.2.1.2.2.2.2.1.1.2.2.1, r6.1.1.2.1.2.2.2.2.1.1.2.2.2))), ((r6.1.1.2.1.2.2.2.2.1.2.1.1, (r6.1.1.2.1.2.2.2.2.1.2.1.2.1, (r6.1.1.2.1.2.2.2.2.1.2.1.2.2.1, r6.1.1.2.1.2.2.2.2.1.2.1.2.2.2))), ((r6.1.1.2.1.2.2.2.2.1.2.2.1.1, (r6.1.1.2.1.2.2.2.2.1.2.2.1.2.1, (r6.1.1.2.1.2.2.2.2.1.2.2.1.2.2.1, r6.1.1.2.1.2.2.2.2.1.2.2.1.2.2.2))), ((r6.1.1.2.1.2.2.2.2.1.2.2.2.1.1, (r6.1.1.2.1.2.2.2.2.1.2.2.2.1.2.1, (r6.1.1.2.1.2.2.2.2.1.2.2.2.1.2.2.1, r6.1.1.2.1.2.2.2.2.1.2.2.2.1.2.2.2))), (r12.2.1.2.1.2.2.2.2.1.2.2.2.2.1, r6.1.1.2.1.2.2.2.2.1.2.2.2.2.2))))), r6.1.1.2.1.2.2.2.2.2))))), (r6.1.1.2.2.1, (r6.1.1.2.2.2.1, (r12.2.1.2.2.2.2.1, (r6.1.1.2.2.2.2.2.1, r6.1.1.2.2.2.2.2.2)))))), ((1 : Int), ()))) (fun r17 => (cnd (ilt r17.1.1 (0 : Int)) (some ((false, ()), ())) (cnd (ine r17.1.1 r12.1.1) (some ((false, ()), ())) (some ((true, ()), ())))))))))))))))))))))))))))))))))))))))))))))) := (FnD.eq V wFnExactTick_c wFnExactTick_F (x1, (x2, ()))).trans (by kernel_rfl)
theorem wFnExactTick_k : CallsOk Try.prog gls gvs 7 wFnExactTick_g := FnD.ok (F := wFnExactTick_F) (cs := wFnExactTick_c) V_ok (kC wSzBridge_k (kC wToBridge_k (kC sTick_k (kC iTick_k (kC wEqBridge_k (kC wMarkBridge_k (kC wHeldBridge_k kN))))))) Try.func7 (by decide) (by kernel_rfl)
-- spec.l24Deliver
noncomputable def sL24Deliver_F : FnD := { f := 64, fn := Try.f64, ps := [⟨TBridge, (.pr (.pr .sh (.pr (.pr (.own 0 .sh) .sh) (.pr (.pr (.own 0 .sh) .sh) (.pr .sh (.pr (.pr .sh (.pr .sh (.pr .sh (.pr .sh (.pr (.own 0 .sh) .sh))))) .sh))))) (.pr (.pr .sh (.pr (.pr (.own 0 .sh) .sh) (.pr (.pr (.own 0 .sh) .sh) (.pr .sh (.pr (.pr .sh (.pr .sh (.pr .sh (.pr .sh (.pr (.own 0 .sh) .sh))))) .sh))))) (.pr .sh (.pr .sh (.pr (.own 0 .sh) .sh))))), true, true, none⟩, pa .str], rs := [rt (.int .i64)], cuts := [(4, [.val 1 .str .sh, .val 5 (.int .i64) .sh, .box 0 TBridge (.pr (.pr .sh (.pr (.pr (.own 0 .sh) .sh) (.pr (.pr (.own 0 .sh) .sh) (.pr .sh (.pr (.pr .sh (.pr .sh (.pr .sh (.pr .sh (.pr (.own 0 .sh) .sh))))) .sh))))) (.pr (.pr .sh (.pr (.pr (.own 0 .sh) .sh) (.pr (.pr (.own 0 .sh) .sh) (.pr .sh (.pr (.pr .sh (.pr .sh (.pr .sh (.pr .sh (.pr (.own 0 .sh) .sh))))) .sh))))) (.pr .sh (.pr .sh (.pr (.own 0 .sh) .sh))))), .ptr 0 0 0])] }
noncomputable def sL24Deliver_c : List (Nat × Sig) := []
noncomputable def sL24Deliver_d : tBridge × ByteArray × Unit → Option ((Int × Unit) × tBridge × Unit) := sL24Deliver_F.d V sL24Deliver_c
noncomputable abbrev sL24Deliver_g : Sig := sL24Deliver_F.t.sig sL24Deliver_d
noncomputable def sL24Deliver_D4 : ByteArray × Int × tBridge × Unit → Option ((Int × Unit) × tBridge × Unit) := sL24Deliver_F.D V sL24Deliver_c 4
theorem sL24Deliver_b (x1 : tBridge) (x2 : ByteArray) : sL24Deliver_d (x1, (x2, ())) = cnd (igt (ssz x2) (600 : Int)) (some (((3 : Int), ()), (x1, ()))) (sL24Deliver_D4 (x2, ((0 : Int), (x1, ())))) := (FnD.eq V sL24Deliver_c sL24Deliver_F (x1, (x2, ()))).trans (by kernel_rfl)
theorem sL24Deliver_q4 (x1 : ByteArray) (x2 : Int) (x3 : tBridge) : sL24Deliver_D4 (x1, (x2, (x3, ()))) = cnd (ilt x2 (len x3.2.2.2.2.1)) (cnd (inb x2 (len x3.2.2.2.2.1)) (cnd (seq (rd (bs []) x3.2.2.2.2.1 x2) x1) (some (((2 : Int), ()), (x3, ()))) (sL24Deliver_D4 (x1, ((iadd .i64 x2 (1 : Int)), (x3, ()))))) none) (cnd (ige (len x3.2.2.2.2.1) (3 : Int)) (some (((1 : Int), ()), (x3, ()))) (cnd (fits ((len ([] : List ByteArray)) + (len x3.2.2.2.2.1)) 1) (cnd (fits ((len (app ([] : List ByteArray) x3.2.2.2.2.1)) + (len (x1 :: ([] : List ByteArray)))) 1) (some (((0 : Int), ()), ((x3.1, (x3.2.1, (x3.2.2.1, (x3.2.2.2.1, ((app (app ([] : List ByteArray) x3.2.2.2.2.1) (x1 :: ([] : List ByteArray))), x3.2.2.2.2.2))))), ()))) none) none)) := (FnD.eqC V sL24Deliver_c sL24Deliver_F 4 (x1, (x2, (x3, ())))).trans (by kernel_rfl)
theorem sL24Deliver_k : CallsOk Try.prog gls gvs 64 sL24Deliver_g := FnD.ok (F := sL24Deliver_F) (cs := sL24Deliver_c) V_ok kN Try.func64 (by decide) (by kernel_rfl)
-- spec.Deliver
noncomputable def sDeliver_F : FnD := { f := 34, fn := Try.f34, ps := [pa TBridge, pa .str], rs := [⟨TBridge, (.pr (.pr .sh (.pr (.pr (.own 0 .sh) .sh) (.pr (.pr (.own 0 .sh) .sh) (.pr .sh (.pr (.pr .sh (.pr .sh (.pr .sh (.pr .sh (.pr (.own 0 .sh) .sh))))) .sh))))) (.pr (.pr .sh (.pr (.pr (.own 0 .sh) .sh) (.pr (.pr (.own 0 .sh) .sh) (.pr .sh (.pr (.pr .sh (.pr .sh (.pr .sh (.pr .sh (.pr (.own 0 .sh) .sh))))) .sh))))) (.pr .sh (.pr .sh (.pr (.own 0 .sh) .sh))))), false⟩, rt (.int .i64)] }
noncomputable def sDeliver_c : List (Nat × Sig) := [(53, sL24Copy_g), (64, sL24Deliver_g)]
noncomputable def sDeliver_d : tBridge × ByteArray × Unit → Option ((tBridge × Int × Unit) × Unit) := sDeliver_F.d V sDeliver_c
noncomputable abbrev sDeliver_g : Sig := sDeliver_F.t.sig sDeliver_d
theorem sDeliver_b (x1 : tBridge) (x2 : ByteArray) : sDeliver_d (x1, (x2, ())) = bnd (sL24Copy_d (x1, ())) (fun r2 => (bnd (sL24Deliver_d (r2.1.1, (x2, ()))) (fun r3 => (some ((r3.2.1, (r3.1.1, ())), ()))))) := (FnD.eq V sDeliver_c sDeliver_F (x1, (x2, ()))).trans (by kernel_rfl)
theorem sDeliver_k : CallsOk Try.prog gls gvs 34 sDeliver_g := FnD.ok (F := sDeliver_F) (cs := sDeliver_c) V_ok (kC sL24Copy_k (kC sL24Deliver_k kN)) Try.func34 (by decide) (by kernel_rfl)
-- slices.Index[[]string,string]
noncomputable def g_slices_Index_string_string_F : FnD := { f := 91, fn := Try.f91, ps := [pa (.sl .str), pa .str], rs := [rt (.int .i64)], cuts := [(2, [.val 0 (.sl .str) .sh, .val 1 .str .sh, .val 7 (.int .i64) .sh, .val 8 (.int .i64) .sh])] }
noncomputable def g_slices_Index_string_string_c : List (Nat × Sig) := []
noncomputable def g_slices_Index_string_string_d : (List ByteArray) × ByteArray × Unit → Option ((Int × Unit) × Unit) := g_slices_Index_string_string_F.d V g_slices_Index_string_string_c
noncomputable abbrev g_slices_Index_string_string_g : Sig := g_slices_Index_string_string_F.t.sig g_slices_Index_string_string_d
noncomputable def g_slices_Index_string_string_D2 : (List ByteArray) × ByteArray × Int × Int × Unit → Option ((Int × Unit) × Unit) := g_slices_Index_string_string_F.D V g_slices_Index_string_string_c 2
theorem g_slices_Index_string_string_b (x1 : (List ByteArray)) (x2 : ByteArray) : g_slices_Index_string_string_d (x1, (x2, ())) = g_slices_Index_string_string_D2 (x1, (x2, ((len x1), ((0 : Int), ())))) := (FnD.eq V g_slices_Index_string_string_c g_slices_Index_string_string_F (x1, (x2, ()))).trans (by kernel_rfl)
theorem g_slices_Index_string_string_q2 (x1 : (List ByteArray)) (x2 : ByteArray) (x3 : Int) (x4 : Int) : g_slices_Index_string_string_D2 (x1, (x2, (x3, (x4, ())))) = cnd (ilt x4 x3) (cnd (inb x4 (len x1)) (cnd (seq x2 (rd (bs []) x1 x4)) (some ((x4, ()), ())) (g_slices_Index_string_string_D2 (x1, (x2, (x3, ((iadd .i64 x4 (1 : Int)), ())))))) none) (some (((-1 : Int), ()), ())) := (FnD.eqC V g_slices_Index_string_string_c g_slices_Index_string_string_F 2 (x1, (x2, (x3, (x4, ()))))).trans (by kernel_rfl)
theorem g_slices_Index_string_string_k : CallsOk Try.prog gls gvs 91 g_slices_Index_string_string_g := FnD.ok (F := g_slices_Index_string_string_F) (cs := g_slices_Index_string_string_c) V_ok kN Try.func91 (by decide) (by kernel_rfl)
-- slices.Contains[[]string,string]
noncomputable def g_slices_Contains_string_string_F : FnD := { f := 65, fn := Try.f65, ps := [pa (.sl .str), pa .str], rs := [rt .bool] }
noncomputable def g_slices_Contains_string_string_c : List (Nat × Sig) := [(91, g_slices_Index_string_string_g)]
noncomputable def g_slices_Contains_string_string_d : (List ByteArray) × ByteArray × Unit → Option ((Bool × Unit) × Unit) := g_slices_Contains_string_string_F.d V g_slices_Contains_string_string_c
noncomputable abbrev g_slices_Contains_string_string_g : Sig := g_slices_Contains_string_string_F.t.sig g_slices_Contains_string_string_d
theorem g_slices_Contains_string_string_b (x1 : (List ByteArray)) (x2 : ByteArray) : g_slices_Contains_string_string_d (x1, (x2, ())) = bnd (g_slices_Index_string_string_d (x1, (x2, ()))) (fun r2 => (some (((ige r2.1.1 (0 : Int)), ()), ()))) := (FnD.eq V g_slices_Contains_string_string_c g_slices_Contains_string_string_F (x1, (x2, ()))).trans (by kernel_rfl)
theorem g_slices_Contains_string_string_k : CallsOk Try.prog gls gvs 65 g_slices_Contains_string_string_g := FnD.ok (F := g_slices_Contains_string_string_F) (cs := g_slices_Contains_string_string_c) V_ok (kC g_slices_Index_string_string_k kN) Try.func65 (by decide) (by kernel_rfl)
-- impl.Deliver
noncomputable def iDeliver_F : FnD := { f := 35, fn := Try.f35, ps := [pa TBridge, pa .str], rs := [⟨TBridge, (.pr (.pr .sh (.pr (.pr (.own 0 .sh) .sh) (.pr (.pr (.own 0 .sh) .sh) (.pr .sh (.pr (.pr .sh (.pr .sh (.pr .sh (.pr .sh (.pr (.own 0 .sh) .sh))))) .sh))))) (.pr (.pr .sh (.pr (.pr (.own 0 .sh) .sh) (.pr (.pr (.own 0 .sh) .sh) (.pr .sh (.pr (.pr .sh (.pr .sh (.pr .sh (.pr .sh (.pr (.own 0 .sh) .sh))))) .sh))))) (.pr .sh (.pr .sh (.pr (.own 0 .sh) .sh))))), false⟩, rt (.int .i64)] }
noncomputable def iDeliver_c : List (Nat × Sig) := [(56, iCopyBridge_g), (65, g_slices_Contains_string_string_g)]
noncomputable def iDeliver_d : tBridge × ByteArray × Unit → Option ((tBridge × Int × Unit) × Unit) := iDeliver_F.d V iDeliver_c
noncomputable abbrev iDeliver_g : Sig := iDeliver_F.t.sig iDeliver_d
theorem iDeliver_b (x1 : tBridge) (x2 : ByteArray) : iDeliver_d (x1, (x2, ())) = bnd (iCopyBridge_d (x1, ())) (fun r2 => (cnd (igt (ssz x2) (600 : Int)) (some ((r2.1.1, ((3 : Int), ())), ())) (bnd (g_slices_Contains_string_string_d (x1.2.2.2.2.1, (x2, ()))) (fun r3 => (cnd r3.1.1 (some ((r2.1.1, ((2 : Int), ())), ())) (cnd (ige (len x1.2.2.2.2.1) (3 : Int)) (some ((r2.1.1, ((1 : Int), ())), ())) (cnd (fits ((len r2.1.1.2.2.2.2.1) + (len (x2 :: ([] : List ByteArray)))) 1) (some (((r2.1.1.1, (r2.1.1.2.1, (r2.1.1.2.2.1, (r2.1.1.2.2.2.1, ((app r2.1.1.2.2.2.2.1 (x2 :: ([] : List ByteArray))), r2.1.1.2.2.2.2.2))))), ((0 : Int), ())), ())) none))))))) := (FnD.eq V iDeliver_c iDeliver_F (x1, (x2, ()))).trans (by kernel_rfl)
theorem iDeliver_k : CallsOk Try.prog gls gvs 35 iDeliver_g := FnD.ok (F := iDeliver_F) (cs := iDeliver_c) V_ok (kC iCopyBridge_k (kC g_slices_Contains_string_string_k kN)) Try.func35 (by decide) (by kernel_rfl)
-- laws.FnExactDeliver
noncomputable def wFnExactDeliver_F : FnD := { f := 8, fn := Try.f8, ps := [pa TBridge, pa .str], rs := [rt .bool] }
noncomputable def wFnExactDeliver_c : List (Nat × Sig) := [(25, wSzBridge_g), (27, wToBridge_g), (34, sDeliver_g), (35, iDeliver_g), (29, wEqBridge_g), (30, wMarkBridge_g), (31, wHeldBridge_g)]
noncomputable def wFnExactDeliver_d : tBridge × ByteArray × Unit → Option ((Bool × Unit) × Unit) := wFnExactDeliver_F.d V wFnExactDeliver_c
noncomputable abbrev wFnExactDeliver_g : Sig := wFnExactDeliver_F.t.sig wFnExactDeliver_d
theorem wFnExactDeliver_b (x1 : tBridge) (x2 : ByteArray) : wFnExactDeliver_d (x1, (x2, ())) = cnd (igt (ssz x2) (1048576 : Int)) (some ((true, ()), ())) (bnd (wSzBridge_d (x1, ((1048576 : Int), ()))) (fun r2 => (cnd (ilt r2.1.1 (0 : Int)) (some ((true, ()), ())) (bnd (wToBridge_d (x1, ())) (fun r3 => (bnd (sDeliver_d (r3.1.1, (x2, ()))) (fun r4 => (bnd (wToBridge_d (x1, ())) (fun r5 => (bnd (iDeliver_d (r5.1.1, (x2, ()))) (fun r6 => (bnd (wEqBridge_d (r6.1.1, (r4.1.1, ()))) (fun r7 => (cnd (bnot r7.1.1) (some ((false, ()), ())) (cnd (ine r6.1.2.1 r4.1.2.1) (some ((false, ()), ())) (bnd (wToBridge_d (x1, ())) (fun r8 => (bnd (wEqBridge_d (r5.1.1, (r8.1.1, ()))) (fun r9 => (cnd (bnot r9.1.1) (some ((false, ()), ())) (bnd (wMarkBridge_d (r5.1.1, ((1 : Int), ()))) (fun r10 => (cnd (ilt r10.1.1 (0 : Int)) (some ((false, ()), ())) (bnd (wEqBridge_d (r6.1.1, (r4.1.1, ()))) (fun r11 => (cnd (bnot r11.1.1) (some ((false, ()), ())) (cnd (ine r6.1.2.1 r4.1.2.1) (some ((false, ()), ())) (bnd (wMarkBridge_d (r6.1.1, ((1 : Int), ()))) (fun r12 => (bnd (wHeldBridge_d ((((r6.1.1.1.1.1, (r6.1.1.1.1.2.1, (r6.1.1.1.1.2.2.1, (r6.1.1.1.1.2.2.2.1, r6.1.1.1.1.2.2.2.2)))), ((r12.2.1.1.2.1.1, r6.1.1.1.2.1.2), ((r12.2.1.1.2.2.1.1, r6.1.1.1.2.2.1.2), (r6.1.1.1.2.2.2.1, (((r6.1.1.1.2.2.2.2.1.1.1, (r6.1.1.1.2.2.2.2.1.1.2.1, (r6.1.1.1.2.2.2.2.1.1.2.2.1, r6.1.1.1.2.2.2.2.1.1.2.2.2))), ((r6.1.1.1.2.2.2.2.1.2.1.1, (r6.1.1.1.2.2.2.2.1.2.1.2.1, (r6.1.1.1.2.2.2.2.1.2.1.2.2.1, r6.1.1.1.2.2.2.2.1.2.1.2.2.2))), ((r6.1.1.1.2.2.2.2.1.2.2.1.1, (r6.1.1.1.2.2.2.2.1.2.2.1.2.1, (r6.1.1.1.2.2.2.2.1.2.2.1.2.2.1, r6.1.1.1.2.2.2.2.1.2.2.1.2.2.2))), ((r6.1.1.1.2.2.2.2.1.2.2.2.1.1, (r6.1.1.1.2.2.2.2.1.2.2.2.1.2.1, (r6.1.1.1.2.2.2.2.1.2.2.2.1.2.2.1, r6.1.1.1.2.2.2.2.1.2.2.2.1.2.2.2))), (r12.2.1.1.2.2.2.2.1.2.2.2.2.1, r6.1.1.1.2.2.2.2.1.2.2.2.2.2))))), r6.1.1.1.2.2.2.2.2))))), (((r6.1.1.2.1.1.1, (r6.1.1.2.1.1.2.1, (r6.1.1.2.1.1.2.2.1, (r6.1.1.2.1.1.2.2.2.1, r6.1.1.2.1.1.2.2.2.2)))), ((r12.2.1.2.1.2.1.1, r6.1.1.2.1.2.1.2), ((r12.2.1.2.1.2.2.1.1, r6.1.1.2.1.2.2.1.2), (r6.1.1.2.1.2.2.2.1, (((r6.1.1.2.1.2.2.2.2.1.1.1, (r6.1.1.2.1.2.2.2.2.1.1.2.1, (r6.1.1.2.1.2.2.2.2.1.1.2.2.1, r6.1.1.2.1.2.2.2.2.1.1.2.2.2))), ((r6.1.1.2.1.2.2.2.2.1.2.1.1, (r6.1.1.2.1.2.2.2.2.1.2.1.2.1, (r6.1.1.2.1.2.2.2.2.1.2.1.2.2.1, r6.1.1.2.1.2.2.2.2.1.2.1.2.2.2))), ((r6.1.1.2.1.2.2.2.2.1.2.2.1.1, (r6.1.1.2.1.2.2.2.2.1.2.2.1.2.1, (r6.1.1.2.1.2.2.2.2.1.2.2.1.2.2.1, r6.1.1.2.1.2.2.2.2.1.2.2.1.2.2.2))), ((r6.1.1.2.1.2.2.2.2.1.2.2.2.1.1, (r6.1.1.2.1.2.2.2.2.1.2.2.2.1.2.1, (r6.1.1.2.1.2.2.2.2.1.2.2.2.1.2.2.1, r6.1.1.2.1.2.2.2.2.1.2.2.2.1.2.2.2))), (r12.2.1.2.1.2.2.2.2.1.2.2.2.2.1, r6.1.1.2.1.2.2.2.2.1.2.2.2.2.2))))), r6.1.1.2.1.2.2.2.2.2))))), (r6.1.1.2.2.1, (r6.1.1.2.2.2.1, (r12.2.1.2.2.2.2.1, (r6.1.1.2.2.2.2.2.1, r6.1.1.2.2.2.2.2.2)))))), ((1 : Int), ()))) (fun r13 => (cnd (ilt r13.1.1 (0 : Int)) (some ((false, ()), ())) (cnd (ine r13.1.1 r12.1.1) (some ((false, ()), ())) (bnd (wToBridge_d (x1, ())) (fun r14 => (bnd (iDeliver_d (r14.1.1, (x2, ()))) (fun r15 => (bnd (wEqBridge_d (r15.1.1, (r4.1.1, ()))) (fun r16 => (cnd (bnot r16.1.1) (some ((false, ()), ())) (cnd (ine r15.1.2.1 r4.1.2.1) (some ((false, ()), ())) (bnd (wHeldBridge_d ((((r6.1.1.1.1.1, (r6.1.1.1.1.2.1, (r6.1.1.1.1.2.2.1, (r6.1.1.1.1.2.2.2.1, r6.1.1.1.1.2.2.2.2)))), ((r12.2.1.1.2.1.1, r6.1.1.1.2.1.2), ((r12.2.1.1.2.2.1.1, r6.1.1.1.2.2.1.2), (r6.1.1.1.2.2.2.1, (((r6.1.1.1.2.2.2.2.1.1.1, (r6.1.1.1.2.2.2.2.1.1.2.1, (r6.1.1.1.2.2.2.2.1.1.2.2.1, r6.1.1.1.2.2.2.2.1.1.2.2.2))), ((r6.1.1.1.2.2.2.2.1.2.1.1, (r6.1.1.1.2.2.2.2.1.2.1.2.1, (r6.1.1.1.2.2.2.2.1.2.1.2.2.1, r6.1.1.1.2.2.2.2.1.2.1.2.2.2))), ((r6.1.1.1.2.2.2.2.1.2.2.1.1, (r6.1.1.1.2.2.2.2.1.2.2.1.2.1, (r6.1.1.1.2.2.2.2.1.2.2.1.2.2.1, r6.1.1.1.2.2.2.2.1.2.2.1.2.2.2))), ((r6.1.1.1.2.2.2.2.1.2.2.2.1.1, (r6.1.1.1.2.2.2.2.1.2.2.2.1.2.1, (r6.1.1.1.2.2.2.2.1.2.2.2.1.2.2.1, r6.1.1.1.2.2.2.2.1.2.2.2.1.2.2.2))), (r12.2.1.1.2.2.2.2.1.2.2.2.2.1, r6.1.1.1.2.2.2.2.1.2.2.2.2.2))))), r6.1.1.1.2.2.2.2.2))))), (((r6.1.1.2.1.1.1, (r6.1.1.2.1.1.2.1, (r6.1.1.2.1.1.2.2.1, (r6.1.1.2.1.1.2.2.2.1, r6.1.1.2.1.1.2.2.2.2)))), ((r12.2.1.2.1.2.1.1, r6.1.1.2.1.2.1.2), ((r12.2.1.2.1.2.2.1.1, r6.1.1.2.1.2.2.1.2), (r6.1.1.2.1.2.2.2.1, (((r6.1.1.2.1.2.2.2.2.1.1.1, (r6.1.1.2.1.2.2.2.2.1.1.2.1, (r6.1.1.2.1.2.2.2.2.1.1.2.2.1, r6.1.1.2.1.2.2.2.2.1.1.2.2.2))), ((r6.1.1.2.1.2.2.2.2.1.2.1.1, (r6.1.1.2.1.2.2.2.2.1.2.1.2.1, (r6.1.1.2.1.2.2.2.2.1.2.1.2.2.1, r6.1.1.2.1.2.2.2.2.1.2.1.2.2.2))), ((r6.1.1.2.1.2.2.2.2.1.2.2.1.1, (r6.1.1.2.1.2.2.2.2.1.2.2.1.2.1, (r6.1.1.2.1.2.2.2.2.1.2.2.1.2.2.1, r6.1.1.2.1.2.2.2.2.1.2.2.1.2.2.2))), ((r6.1.1.2.1.2.2.2.2.1.2.2.2.1.1, (r6.1.1.2.1.2.2.2.2.1.2.2.2.1.2.1, (r6.1.1.2.1.2.2.2.2.1.2.2.2.1.2.2.1, r6.1.1.2.1.2.2.2.2.1.2.2.2.1.2.2.2))), (r12.2.1.2.1.2.2.2.2.1.2.2.2.2.1, r6.1.1.2.1.2.2.2.2.1.2.2.2.2.2))))), r6.1.1.2.1.2.2.2.2.2))))), (r6.1.1.2.2.1, (r6.1.1.2.2.2.1, (r12.2.1.2.2.2.2.1, (r6.1.1.2.2.2.2.2.1, r6.1.1.2.2.2.2.2.2)))))), ((1 : Int), ()))) (fun r17 => (cnd (ilt r17.1.1 (0 : Int)) (some ((false, ()), ())) (cnd (ine r17.1.1 r12.1.1) (some ((false, ()), ())) (some ((true, ()), ()))))))))))))))))))))))))))))))))))))))))))))))) := (FnD.eq V wFnExactDeliver_c wFnExactDeliver_F (x1, (x2, ()))).trans (by kernel_rfl)
theorem wFnExactDeliver_k : CallsOk Try.prog gls gvs 8 wFnExactDeliver_g := FnD.ok (F := wFnExactDeliver_F) (cs := wFnExactDeliver_c) V_ok (kC wSzBridge_k (kC wToBridge_k (kC sDeliver_k (kC iDeliver_k (kC wEqBridge_k (kC wMarkBridge_k (kC wHeldBridge_k kN))))))) Try.func8 (by decide) (by kernel_rfl)
-- spec.SecretsOf
noncomputable def sSecretsOf_F : FnD := { f := 92, fn := Try.f92, ps := [pa (.int .i64)], rs := [⟨(.sl (.int .i64)), (.own 0 .sh), false⟩], joins := [4], cuts := [(4, [.val 3 (.int .i64) .sh]), (6, [.val 3 (.int .i64) .sh, .val 4 (.sl (.int .i64)) (.own 0 .sh), .val 5 (.int .i64) .sh])] }
noncomputable def sSecretsOf_c : List (Nat × Sig) := []
noncomputable def sSecretsOf_d : Int × Unit → Option (((List Int) × Unit) × Unit) := sSecretsOf_F.d V sSecretsOf_c
noncomputable abbrev sSecretsOf_g : Sig := sSecretsOf_F.t.sig sSecretsOf_d
noncomputable def sSecretsOf_D4 : Int × Unit → Option (((List Int) × Unit) × Unit) := sSecretsOf_F.D V sSecretsOf_c 4
noncomputable def sSecretsOf_D6 : Int × (List Int) × Int × Unit → Option (((List Int) × Unit) × Unit) := sSecretsOf_F.D V sSecretsOf_c 6
theorem sSecretsOf_b (x1 : Int) : sSecretsOf_d (x1, ()) = cnd (nz (1000 : Int)) (cnd (ilt (irem x1 (1000 : Int)) (0 : Int)) (sSecretsOf_D4 ((iadd .i64 (irem x1 (1000 : Int)) (1000 : Int)), ())) (sSecretsOf_D4 ((irem x1 (1000 : Int)), ()))) none := (FnD.eq V sSecretsOf_c sSecretsOf_F (x1, ())).trans (by kernel_rfl)
theorem sSecretsOf_q4 (x1 : Int) : sSecretsOf_D4 (x1, ()) = sSecretsOf_D6 (x1, (([] : List Int), ((0 : Int), ()))) := (FnD.eqC V sSecretsOf_c sSecretsOf_F 4 (x1, ())).trans (by kernel_rfl)
theorem sSecretsOf_q6 (x1 : Int) (x2 : (List Int)) (x3 : Int) : sSecretsOf_D6 (x1, (x2, (x3, ()))) = cnd (ilt x3 (8 : Int)) (cnd (nz (1007 : Int)) (cnd (fits ((len x2) + (len ((iadd .i64 (1 : Int) (irem (iadd .i64 (iadd .i64 (imul .i64 x1 (31 : Int)) (imul .i64 x3 (57 : Int))) (7 : Int)) (1007 : Int))) :: ([] : List Int)))) 1) (sSecretsOf_D6 (x1, ((app x2 ((iadd .i64 (1 : Int) (irem (iadd .i64 (iadd .i64 (imul .i64 x1 (31 : Int)) (imul .i64 x3 (57 : Int))) (7 : Int)) (1007 : Int))) :: ([] : List Int))), ((iadd .i64 x3 (1 : Int)), ())))) none) none) (some ((x2, ()), ())) := (FnD.eqC V sSecretsOf_c sSecretsOf_F 6 (x1, (x2, (x3, ())))).trans (by kernel_rfl)
theorem sSecretsOf_k : CallsOk Try.prog gls gvs 92 sSecretsOf_g := FnD.ok (F := sSecretsOf_F) (cs := sSecretsOf_c) V_ok kN Try.func92 (by decide) (by kernel_rfl)
-- spec.ScOf
noncomputable def sScOf_F : FnD := { f := 107, fn := Try.f107, ps := [pa (.int .i64)], rs := [rt (.int .i64)] }
noncomputable def sScOf_c : List (Nat × Sig) := []
noncomputable def sScOf_d : Int × Unit → Option ((Int × Unit) × Unit) := sScOf_F.d V sScOf_c
noncomputable abbrev sScOf_g : Sig := sScOf_F.t.sig sScOf_d
theorem sScOf_b (x1 : Int) : sScOf_d (x1, ()) = cnd (nz (1009 : Int)) (cnd (ilt (irem x1 (1009 : Int)) (0 : Int)) (some (((iadd .i64 (irem x1 (1009 : Int)) (1009 : Int)), ()), ())) (some (((irem x1 (1009 : Int)), ()), ()))) none := (FnD.eq V sScOf_c sScOf_F (x1, ())).trans (by kernel_rfl)
theorem sScOf_k : CallsOk Try.prog gls gvs 107 sScOf_g := FnD.ok (F := sScOf_F) (cs := sScOf_c) V_ok kN Try.func107 (by decide) (by kernel_rfl)
-- spec.Base
noncomputable def sBase_F : FnD := { f := 108, fn := Try.f108, ps := [], rs := [rt TPoint] }
noncomputable def sBase_c : List (Nat × Sig) := []
noncomputable def sBase_d : Unit → Option ((tPoint × Unit) × Unit) := sBase_F.d V sBase_c
noncomputable abbrev sBase_g : Sig := sBase_F.t.sig sBase_d
theorem sBase_b : sBase_d () = some ((((8445 : Int), ((859 : Int), (false, ()))), ()), ()) := (FnD.eq V sBase_c sBase_F ()).trans (by kernel_rfl)
theorem sBase_k : CallsOk Try.prog gls gvs 108 sBase_g := FnD.ok (F := sBase_F) (cs := sBase_c) V_ok kN Try.func108 (by decide) (by kernel_rfl)
-- spec.FpOk
noncomputable def sFpOk_F : FnD := { f := 122, fn := Try.f122, ps := [pa (.int .i64)], rs := [rt .bool] }
noncomputable def sFpOk_c : List (Nat × Sig) := [(41, sL01In_g)]
noncomputable def sFpOk_d : Int × Unit → Option ((Bool × Unit) × Unit) := sFpOk_F.d V sFpOk_c
noncomputable abbrev sFpOk_g : Sig := sFpOk_F.t.sig sFpOk_d
theorem sFpOk_b (x1 : Int) : sFpOk_d (x1, ()) = bnd (sL01In_d (x1, ((0 : Int), ((12106 : Int), ())))) (fun r1 => (some ((r1.1.1, ()), ()))) := (FnD.eq V sFpOk_c sFpOk_F (x1, ())).trans (by kernel_rfl)
theorem sFpOk_k : CallsOk Try.prog gls gvs 122 sFpOk_g := FnD.ok (F := sFpOk_F) (cs := sFpOk_c) V_ok (kC sL01In_k kN) Try.func122 (by decide) (by kernel_rfl)
-- spec.FpOf
noncomputable def sFpOf_F : FnD := { f := 132, fn := Try.f132, ps := [pa (.int .i64)], rs := [rt (.int .i64)] }
noncomputable def sFpOf_c : List (Nat × Sig) := []
noncomputable def sFpOf_d : Int × Unit → Option ((Int × Unit) × Unit) := sFpOf_F.d V sFpOf_c
noncomputable abbrev sFpOf_g : Sig := sFpOf_F.t.sig sFpOf_d
theorem sFpOf_b (x1 : Int) : sFpOf_d (x1, ()) = cnd (nz (12107 : Int)) (cnd (ilt (irem x1 (12107 : Int)) (0 : Int)) (some (((iadd .i64 (irem x1 (12107 : Int)) (12107 : Int)), ()), ())) (some (((irem x1 (12107 : Int)), ()), ()))) none := (FnD.eq V sFpOf_c sFpOf_F (x1, ())).trans (by kernel_rfl)
theorem sFpOf_k : CallsOk Try.prog gls gvs 132 sFpOf_g := FnD.ok (F := sFpOf_F) (cs := sFpOf_c) V_ok kN Try.func132 (by decide) (by kernel_rfl)
-- spec.FpMul
noncomputable def sFpMul_F : FnD := { f := 123, fn := Try.f123, ps := [pa (.int .i64), pa (.int .i64)], rs := [rt (.int .i64)] }
noncomputable def sFpMul_c : List (Nat × Sig) := [(132, sFpOf_g)]
noncomputable def sFpMul_d : Int × Int × Unit → Option ((Int × Unit) × Unit) := sFpMul_F.d V sFpMul_c
noncomputable abbrev sFpMul_g : Sig := sFpMul_F.t.sig sFpMul_d
theorem sFpMul_b (x1 : Int) (x2 : Int) : sFpMul_d (x1, (x2, ())) = bnd (sFpOf_d (x1, ())) (fun r2 => (bnd (sFpOf_d (x2, ())) (fun r3 => (bnd (sFpOf_d ((imul .i64 r2.1.1 r3.1.1), ())) (fun r4 => (some ((r4.1.1, ()), ()))))))) := (FnD.eq V sFpMul_c sFpMul_F (x1, (x2, ()))).trans (by kernel_rfl)
theorem sFpMul_k : CallsOk Try.prog gls gvs 123 sFpMul_g := FnD.ok (F := sFpMul_F) (cs := sFpMul_c) V_ok (kC sFpOf_k kN) Try.func123 (by decide) (by kernel_rfl)
-- spec.FpAdd
noncomputable def sFpAdd_F : FnD := { f := 133, fn := Try.f133, ps := [pa (.int .i64), pa (.int .i64)], rs := [rt (.int .i64)] }
noncomputable def sFpAdd_c : List (Nat × Sig) := [(132, sFpOf_g)]
noncomputable def sFpAdd_d : Int × Int × Unit → Option ((Int × Unit) × Unit) := sFpAdd_F.d V sFpAdd_c
noncomputable abbrev sFpAdd_g : Sig := sFpAdd_F.t.sig sFpAdd_d
theorem sFpAdd_b (x1 : Int) (x2 : Int) : sFpAdd_d (x1, (x2, ())) = bnd (sFpOf_d (x1, ())) (fun r2 => (bnd (sFpOf_d (x2, ())) (fun r3 => (bnd (sFpOf_d ((iadd .i64 r2.1.1 r3.1.1), ())) (fun r4 => (some ((r4.1.1, ()), ()))))))) := (FnD.eq V sFpAdd_c sFpAdd_F (x1, (x2, ()))).trans (by kernel_rfl)
theorem sFpAdd_k : CallsOk Try.prog gls gvs 133 sFpAdd_g := FnD.ok (F := sFpAdd_F) (cs := sFpAdd_c) V_ok (kC sFpOf_k kN) Try.func133 (by decide) (by kernel_rfl)
-- spec.l07Right
noncomputable def sL07Right_F : FnD := { f := 124, fn := Try.f124, ps := [pa (.int .i64)], rs := [rt (.int .i64)] }
noncomputable def sL07Right_c : List (Nat × Sig) := [(123, sFpMul_g), (133, sFpAdd_g)]
noncomputable def sL07Right_d : Int × Unit → Option ((Int × Unit) × Unit) := sL07Right_F.d V sL07Right_c
noncomputable abbrev sL07Right_g : Sig := sL07Right_F.t.sig sL07Right_d
theorem sL07Right_b (x1 : Int) : sL07Right_d (x1, ()) = bnd (sFpMul_d (x1, (x1, ()))) (fun r1 => (bnd (sFpMul_d (r1.1.1, (x1, ()))) (fun r2 => (bnd (sFpAdd_d (r2.1.1, (x1, ()))) (fun r3 => (some ((r3.1.1, ()), ()))))))) := (FnD.eq V sL07Right_c sL07Right_F (x1, ())).trans (by kernel_rfl)
theorem sL07Right_k : CallsOk Try.prog gls gvs 124 sL07Right_g := FnD.ok (F := sL07Right_F) (cs := sL07Right_c) V_ok (kC sFpMul_k (kC sFpAdd_k kN)) Try.func124 (by decide) (by kernel_rfl)
-- spec.PointOk
noncomputable def sPointOk_F : FnD := { f := 116, fn := Try.f116, ps := [pa TPoint], rs := [rt .bool] }
noncomputable def sPointOk_c : List (Nat × Sig) := [(122, sFpOk_g), (123, sFpMul_g), (124, sL07Right_g)]
noncomputable def sPointOk_d : tPoint × Unit → Option ((Bool × Unit) × Unit) := sPointOk_F.d V sPointOk_c
noncomputable abbrev sPointOk_g : Sig := sPointOk_F.t.sig sPointOk_d
theorem sPointOk_b (x1 : tPoint) : sPointOk_d (x1, ()) = cnd x1.2.2.1 (cnd (ieq x1.1 (0 : Int)) (some (((ieq x1.2.1 (0 : Int)), ()), ())) (some ((false, ()), ()))) (bnd (sFpOk_d (x1.1, ())) (fun r1 => (cnd r1.1.1 (bnd (sFpOk_d (x1.2.1, ())) (fun r2 => (cnd r2.1.1 (bnd (sFpMul_d (x1.2.1, (x1.2.1, ()))) (fun r3 => (bnd (sL07Right_d (x1.1, ())) (fun r4 => (some (((ieq r3.1.1 r4.1.1), ()), ())))))) (some ((false, ()), ()))))) (some ((false, ()), ()))))) := (FnD.eq V sPointOk_c sPointOk_F (x1, ())).trans (by kernel_rfl)
theorem sPointOk_k : CallsOk Try.prog gls gvs 116 sPointOk_g := FnD.ok (F := sPointOk_F) (cs := sPointOk_c) V_ok (kC sFpOk_k (kC sFpMul_k (kC sL07Right_k kN))) Try.func116 (by decide) (by kernel_rfl)
-- spec.l07Zero
noncomputable def sL07Zero_F : FnD := { f := 117, fn := Try.f117, ps := [], rs := [rt TPoint] }
noncomputable def sL07Zero_c : List (Nat × Sig) := []
noncomputable def sL07Zero_d : Unit → Option ((tPoint × Unit) × Unit) := sL07Zero_F.d V sL07Zero_c
noncomputable abbrev sL07Zero_g : Sig := sL07Zero_F.t.sig sL07Zero_d
theorem sL07Zero_b : sL07Zero_d () = some ((((0 : Int), ((0 : Int), (true, ()))), ()), ()) := (FnD.eq V sL07Zero_c sL07Zero_F ()).trans (by kernel_rfl)
theorem sL07Zero_k : CallsOk Try.prog gls gvs 117 sL07Zero_g := FnD.ok (F := sL07Zero_F) (cs := sL07Zero_c) V_ok kN Try.func117 (by decide) (by kernel_rfl)
-- spec.FpSub
noncomputable def sFpSub_F : FnD := { f := 125, fn := Try.f125, ps := [pa (.int .i64), pa (.int .i64)], rs := [rt (.int .i64)] }
noncomputable def sFpSub_c : List (Nat × Sig) := [(132, sFpOf_g)]
noncomputable def sFpSub_d : Int × Int × Unit → Option ((Int × Unit) × Unit) := sFpSub_F.d V sFpSub_c
noncomputable abbrev sFpSub_g : Sig := sFpSub_F.t.sig sFpSub_d
theorem sFpSub_b (x1 : Int) (x2 : Int) : sFpSub_d (x1, (x2, ())) = bnd (sFpOf_d (x1, ())) (fun r2 => (bnd (sFpOf_d (x2, ())) (fun r3 => (bnd (sFpOf_d ((isub .i64 r2.1.1 r3.1.1), ())) (fun r4 => (some ((r4.1.1, ()), ()))))))) := (FnD.eq V sFpSub_c sFpSub_F (x1, (x2, ()))).trans (by kernel_rfl)
theorem sFpSub_k : CallsOk Try.prog gls gvs 125 sFpSub_g := FnD.ok (F := sFpSub_F) (cs := sFpSub_c) V_ok (kC sFpOf_k kN) Try.func125 (by decide) (by kernel_rfl)
-- spec.PointNeg
noncomputable def sPointNeg_F : FnD := { f := 118, fn := Try.f118, ps := [pa TPoint], rs := [rt TPoint] }
noncomputable def sPointNeg_c : List (Nat × Sig) := [(117, sL07Zero_g), (125, sFpSub_g)]
noncomputable def sPointNeg_d : tPoint × Unit → Option ((tPoint × Unit) × Unit) := sPointNeg_F.d V sPointNeg_c
noncomputable abbrev sPointNeg_g : Sig := sPointNeg_F.t.sig sPointNeg_d
theorem sPointNeg_b (x1 : tPoint) : sPointNeg_d (x1, ()) = cnd x1.2.2.1 (bnd (sL07Zero_d ()) (fun r1 => (some ((r1.1.1, ()), ())))) (bnd (sFpSub_d ((0 : Int), (x1.2.1, ()))) (fun r1 => (some (((x1.1, (r1.1.1, (false, ()))), ()), ())))) := (FnD.eq V sPointNeg_c sPointNeg_F (x1, ())).trans (by kernel_rfl)
theorem sPointNeg_k : CallsOk Try.prog gls gvs 118 sPointNeg_g := FnD.ok (F := sPointNeg_F) (cs := sPointNeg_c) V_ok (kC sL07Zero_k (kC sFpSub_k kN)) Try.func118 (by decide) (by kernel_rfl)
-- spec.FpPow
noncomputable def sFpPow_F : FnD := { f := 138, fn := Try.f138, ps := [pa (.int .i64), pa (.int .i64)], rs := [rt (.int .i64)], joins := [8], cuts := [(8, [.val 1 (.int .i64) .sh, .val 5 (.int .i64) .sh, .val 6 (.int .i64) .sh]), (5, [.val 1 (.int .i64) .sh, .val 5 (.int .i64) .sh, .val 6 (.int .i64) .sh])] }
noncomputable def sFpPow_c : List (Nat × Sig) := [(132, sFpOf_g), (123, sFpMul_g)]
noncomputable def sFpPow_d : Int × Int × Unit → Option ((Int × Unit) × Unit) := sFpPow_F.d V sFpPow_c
noncomputable abbrev sFpPow_g : Sig := sFpPow_F.t.sig sFpPow_d
noncomputable def sFpPow_D8 : Int × Int × Int × Unit → Option ((Int × Unit) × Unit) := sFpPow_F.D V sFpPow_c 8
noncomputable def sFpPow_D5 : Int × Int × Int × Unit → Option ((Int × Unit) × Unit) := sFpPow_F.D V sFpPow_c 5
theorem sFpPow_b (x1 : Int) (x2 : Int) : sFpPow_d (x1, (x2, ())) = cnd (ilt x2 (0 : Int)) (some (((0 : Int), ()), ())) (bnd (sFpOf_d (x1, ())) (fun r2 => (sFpPow_D5 (x2, ((1 : Int), (r2.1.1, ())))))) := (FnD.eq V sFpPow_c sFpPow_F (x1, (x2, ()))).trans (by kernel_rfl)
theorem sFpPow_q8 (x1 : Int) (x2 : Int) (x3 : Int) : sFpPow_D8 (x1, (x2, (x3, ()))) = bnd (sFpMul_d (x3, (x3, ()))) (fun r3 => (cnd (nz (2 : Int)) (sFpPow_D5 ((iquo .i64 x1 (2 : Int)), (x2, (r3.1.1, ())))) none)) := (FnD.eqC V sFpPow_c sFpPow_F 8 (x1, (x2, (x3, ())))).trans (by kernel_rfl)
theorem sFpPow_q5 (x1 : Int) (x2 : Int) (x3 : Int) : sFpPow_D5 (x1, (x2, (x3, ()))) = cnd (igt x1 (0 : Int)) (cnd (nz (2 : Int)) (cnd (ieq (irem x1 (2 : Int)) (1 : Int)) (bnd (sFpMul_d (x2, (x3, ()))) (fun r3 => (sFpPow_D8 (x1, (r3.1.1, (x3, ())))))) (sFpPow_D8 (x1, (x2, (x3, ()))))) none) (some ((x2, ()), ())) := (FnD.eqC V sFpPow_c sFpPow_F 5 (x1, (x2, (x3, ())))).trans (by kernel_rfl)
theorem sFpPow_k : CallsOk Try.prog gls gvs 138 sFpPow_g := FnD.ok (F := sFpPow_F) (cs := sFpPow_c) V_ok (kC sFpOf_k (kC sFpMul_k kN)) Try.func138 (by decide) (by kernel_rfl)
-- spec.FpInv
noncomputable def sFpInv_F : FnD := { f := 134, fn := Try.f134, ps := [pa (.int .i64)], rs := [rt (.int .i64)] }
noncomputable def sFpInv_c : List (Nat × Sig) := [(138, sFpPow_g)]
noncomputable def sFpInv_d : Int × Unit → Option ((Int × Unit) × Unit) := sFpInv_F.d V sFpInv_c
noncomputable abbrev sFpInv_g : Sig := sFpInv_F.t.sig sFpInv_d
theorem sFpInv_b (x1 : Int) : sFpInv_d (x1, ()) = bnd (sFpPow_d (x1, ((12105 : Int), ()))) (fun r1 => (some ((r1.1.1, ()), ()))) := (FnD.eq V sFpInv_c sFpInv_F (x1, ())).trans (by kernel_rfl)
theorem sFpInv_k : CallsOk Try.prog gls gvs 134 sFpInv_g := FnD.ok (F := sFpInv_F) (cs := sFpInv_c) V_ok (kC sFpPow_k kN) Try.func134 (by decide) (by kernel_rfl)
-- spec.l07Slope
noncomputable def sL07Slope_F : FnD := { f := 126, fn := Try.f126, ps := [pa TPoint, pa TPoint], rs := [rt (.int .i64), rt .bool] }
noncomputable def sL07Slope_c : List (Nat × Sig) := [(125, sFpSub_g), (134, sFpInv_g), (123, sFpMul_g), (133, sFpAdd_g)]
noncomputable def sL07Slope_d : tPoint × tPoint × Unit → Option ((Int × Bool × Unit) × Unit) := sL07Slope_F.d V sL07Slope_c
noncomputable abbrev sL07Slope_g : Sig := sL07Slope_F.t.sig sL07Slope_d
theorem sL07Slope_b (x1 : tPoint) (x2 : tPoint) : sL07Slope_d (x1, (x2, ())) = cnd (ine x1.1 x2.1) (bnd (sFpSub_d (x2.2.1, (x1.2.1, ()))) (fun r2 => (bnd (sFpSub_d (x2.1, (x1.1, ()))) (fun r3 => (bnd (sFpInv_d (r3.1.1, ())) (fun r4 => (bnd (sFpMul_d (r2.1.1, (r4.1.1, ()))) (fun r5 => (some ((r5.1.1, (true, ())), ())))))))))) (bnd (sFpAdd_d (x1.2.1, (x2.2.1, ()))) (fun r2 => (cnd (ieq r2.1.1 (0 : Int)) (some (((0 : Int), (false, ())), ())) (bnd (sFpMul_d (x1.1, (x1.1, ()))) (fun r3 => (bnd (sFpMul_d ((3 : Int), (r3.1.1, ()))) (fun r4 => (bnd (sFpAdd_d (r4.1.1, ((1 : Int), ()))) (fun r5 => (bnd (sFpMul_d ((2 : Int), (x1.2.1, ()))) (fun r6 => (bnd (sFpInv_d (r6.1.1, ())) (fun r7 => (bnd (sFpMul_d (r5.1.1, (r7.1.1, ()))) (fun r8 => (some ((r8.1.1, (true, ())), ()))))))))))))))))) := (FnD.eq V sL07Slope_c sL07Slope_F (x1, (x2, ()))).trans (by kernel_rfl)
theorem sL07Slope_k : CallsOk Try.prog gls gvs 126 sL07Slope_g := FnD.ok (F := sL07Slope_F) (cs := sL07Slope_c) V_ok (kC sFpSub_k (kC sFpInv_k (kC sFpMul_k (kC sFpAdd_k kN)))) Try.func126 (by decide) (by kernel_rfl)
-- spec.l07Add
noncomputable def sL07Add_F : FnD := { f := 119, fn := Try.f119, ps := [pa TPoint, pa TPoint], rs := [rt TPoint] }
noncomputable def sL07Add_c : List (Nat × Sig) := [(126, sL07Slope_g), (117, sL07Zero_g), (123, sFpMul_g), (125, sFpSub_g)]
noncomputable def sL07Add_d : tPoint × tPoint × Unit → Option ((tPoint × Unit) × Unit) := sL07Add_F.d V sL07Add_c
noncomputable abbrev sL07Add_g : Sig := sL07Add_F.t.sig sL07Add_d
theorem sL07Add_b (x1 : tPoint) (x2 : tPoint) : sL07Add_d (x1, (x2, ())) = cnd x1.2.2.1 (some ((x2, ()), ())) (cnd x2.2.2.1 (some ((x1, ()), ())) (bnd (sL07Slope_d (x1, (x2, ()))) (fun r2 => (cnd (bnot r2.1.2.1) (bnd (sL07Zero_d ()) (fun r3 => (some ((r3.1.1, ()), ())))) (bnd (sFpMul_d (r2.1.1, (r2.1.1, ()))) (fun r3 => (bnd (sFpSub_d (r3.1.1, (x1.1, ()))) (fun r4 => (bnd (sFpSub_d (r4.1.1, (x2.1, ()))) (fun r5 => (bnd (sFpSub_d (x1.1, (r5.1.1, ()))) (fun r6 => (bnd (sFpMul_d (r2.1.1, (r6.1.1, ()))) (fun r7 => (bnd (sFpSub_d (r7.1.1, (x1.2.1, ()))) (fun r8 => (some (((r5.1.1, (r8.1.1, (false, ()))), ()), ())))))))))))))))))) := (FnD.eq V sL07Add_c sL07Add_F (x1, (x2, ()))).trans (by kernel_rfl)
theorem sL07Add_k : CallsOk Try.prog gls gvs 119 sL07Add_g := FnD.ok (F := sL07Add_F) (cs := sL07Add_c) V_ok (kC sL07Slope_k (kC sL07Zero_k (kC sFpMul_k (kC sFpSub_k kN)))) Try.func119 (by decide) (by kernel_rfl)
-- spec.PointTimes
noncomputable def sPointTimes_F : FnD := { f := 106, fn := Try.f106, ps := [pa (.int .i64), pa TPoint], rs := [rt TPoint], joins := [8, 12], cuts := [(8, [.val 5 (.int .i64) .sh, .box 4 TPoint .sh, .box 6 TPoint .sh, .ptr 4 4 0, .ptr 6 6 0]), (12, [.val 5 (.int .i64) .sh, .box 4 TPoint .sh, .box 6 TPoint .sh, .box 7 TPoint .sh, .ptr 4 4 0, .ptr 6 6 0, .ptr 7 7 0]), (9, [.val 5 (.int .i64) .sh, .box 4 TPoint .sh, .box 6 TPoint .sh, .box 7 TPoint .sh, .ptr 4 4 0, .ptr 6 6 0, .ptr 7 7 0])] }
noncomputable def sPointTimes_c : List (Nat × Sig) := [(116, sPointOk_g), (117, sL07Zero_g), (118, sPointNeg_g), (119, sL07Add_g)]
noncomputable def sPointTimes_d : Int × tPoint × Unit → Option ((tPoint × Unit) × Unit) := sPointTimes_F.d V sPointTimes_c
noncomputable abbrev sPointTimes_g : Sig := sPointTimes_F.t.sig sPointTimes_d
noncomputable def sPointTimes_D8 : Int × tPoint × tPoint × Unit → Option ((tPoint × Unit) × Unit) := sPointTimes_F.D V sPointTimes_c 8
noncomputable def sPointTimes_D12 : Int × tPoint × tPoint × tPoint × Unit → Option ((tPoint × Unit) × Unit) := sPointTimes_F.D V sPointTimes_c 12
noncomputable def sPointTimes_D9 : Int × tPoint × tPoint × tPoint × Unit → Option ((tPoint × Unit) × Unit) := sPointTimes_F.D V sPointTimes_c 9
theorem sPointTimes_b (x1 : Int) (x2 : tPoint) : sPointTimes_d (x1, (x2, ())) = bnd (sPointOk_d (x2, ())) (fun r2 => (cnd (bnot r2.1.1) (bnd (sL07Zero_d ()) (fun r3 => (some ((r3.1.1, ()), ())))) (cnd (nz (12108 : Int)) (cnd (ilt (irem x1 (12108 : Int)) (0 : Int)) (bnd (sPointNeg_d (x2, ())) (fun r3 => (sPointTimes_D8 ((ineg .i64 (irem x1 (12108 : Int))), (zPoint, (r3.1.1, ())))))) (sPointTimes_D8 ((irem x1 (12108 : Int)), (zPoint, (x2, ()))))) none))) := (FnD.eq V sPointTimes_c sPointTimes_F (x1, (x2, ()))).trans (by kernel_rfl)
theorem sPointTimes_q8 (x1 : Int) (x2 : tPoint) (x3 : tPoint) : sPointTimes_D8 (x1, (x2, (x3, ()))) = bnd (sL07Zero_d ()) (fun r3 => (sPointTimes_D9 (x1, (x2, (x3, (r3.1.1, ())))))) := (FnD.eqC V sPointTimes_c sPointTimes_F 8 (x1, (x2, (x3, ())))).trans (by kernel_rfl)
theorem sPointTimes_q12 (x1 : Int) (x2 : tPoint) (x3 : tPoint) (x4 : tPoint) : sPointTimes_D12 (x1, (x2, (x3, (x4, ())))) = bnd (sL07Add_d (x3, (x3, ()))) (fun r4 => (cnd (nz (2 : Int)) (sPointTimes_D9 ((iquo .i64 x1 (2 : Int)), (x2, (r4.1.1, (x4, ()))))) none)) := (FnD.eqC V sPointTimes_c sPointTimes_F 12 (x1, (x2, (x3, (x4, ()))))).trans (by kernel_rfl)
theorem sPointTimes_q9 (x1 : Int) (x2 : tPoint) (x3 : tPoint) (x4 : tPoint) : sPointTimes_D9 (x1, (x2, (x3, (x4, ())))) = cnd (igt x1 (0 : Int)) (cnd (nz (2 : Int)) (cnd (ieq (irem x1 (2 : Int)) (1 : Int)) (bnd (sL07Add_d (x4, (x3, ()))) (fun r4 => (sPointTimes_D12 (x1, (x2, (x3, (r4.1.1, ()))))))) (sPointTimes_D12 (x1, (x2, (x3, (x4, ())))))) none) (some ((x4, ()), ())) := (FnD.eqC V sPointTimes_c sPointTimes_F 9 (x1, (x2, (x3, (x4, ()))))).trans (by kernel_rfl)
theorem sPointTimes_k : CallsOk Try.prog gls gvs 106 sPointTimes_g := FnD.ok (F := sPointTimes_F) (cs := sPointTimes_c) V_ok (kC sPointOk_k (kC sL07Zero_k (kC sPointNeg_k (kC sL07Add_k kN)))) Try.func106 (by decide) (by kernel_rfl)
-- spec.KeyOf
noncomputable def sKeyOf_F : FnD := { f := 93, fn := Try.f93, ps := [pa (.int .i64)], rs := [rt TPoint] }
noncomputable def sKeyOf_c : List (Nat × Sig) := [(107, sScOf_g), (108, sBase_g), (106, sPointTimes_g)]
noncomputable def sKeyOf_d : Int × Unit → Option ((tPoint × Unit) × Unit) := sKeyOf_F.d V sKeyOf_c
noncomputable abbrev sKeyOf_g : Sig := sKeyOf_F.t.sig sKeyOf_d
theorem sKeyOf_b (x1 : Int) : sKeyOf_d (x1, ()) = bnd (sScOf_d (x1, ())) (fun r1 => (bnd (sBase_d ()) (fun r2 => (bnd (sPointTimes_d (r1.1.1, (r2.1.1, ()))) (fun r3 => (some ((r3.1.1, ()), ()))))))) := (FnD.eq V sKeyOf_c sKeyOf_F (x1, ())).trans (by kernel_rfl)
theorem sKeyOf_k : CallsOk Try.prog gls gvs 93 sKeyOf_g := FnD.ok (F := sKeyOf_F) (cs := sKeyOf_c) V_ok (kC sScOf_k (kC sBase_k (kC sPointTimes_k kN))) Try.func93 (by decide) (by kernel_rfl)
-- spec.CommitteeOf
noncomputable def sCommitteeOf_F : FnD := { f := 66, fn := Try.f66, ps := [pa (.int .i64)], rs := [⟨TCommittee, (.pr (.own 0 .sh) .sh), false⟩], cuts := [(4, [.val 3 (.sl (.int .i64)) (.own 0 .sh), .val 5 (.int .i64) .sh, .box 2 TCommittee (.pr (.own 0 .sh) .sh), .box 4 TCommittee (.pr (.own 0 .sh) .sh), .ptr 2 2 0, .ptr 4 4 0])] }
noncomputable def sCommitteeOf_c : List (Nat × Sig) := [(92, sSecretsOf_g), (93, sKeyOf_g)]
noncomputable def sCommitteeOf_d : Int × Unit → Option ((tCommittee × Unit) × Unit) := sCommitteeOf_F.d V sCommitteeOf_c
noncomputable abbrev sCommitteeOf_g : Sig := sCommitteeOf_F.t.sig sCommitteeOf_d
noncomputable def sCommitteeOf_D4 : (List Int) × Int × tCommittee × tCommittee × Unit → Option ((tCommittee × Unit) × Unit) := sCommitteeOf_F.D V sCommitteeOf_c 4
theorem sCommitteeOf_b (x1 : Int) : sCommitteeOf_d (x1, ()) = bnd (sSecretsOf_d (x1, ())) (fun r1 => (sCommitteeOf_D4 (r1.1.1, ((0 : Int), (zCommittee, (zCommittee, ())))))) := (FnD.eq V sCommitteeOf_c sCommitteeOf_F (x1, ())).trans (by kernel_rfl)
theorem sCommitteeOf_q4 (x1 : (List Int)) (x2 : Int) (x3 : tCommittee) (x4 : tCommittee) : sCommitteeOf_D4 (x1, (x2, (x3, (x4, ())))) = cnd (ilt x2 (len x1)) (cnd (inb x2 (len x1)) (bnd (sKeyOf_d ((rd (0 : Int) x1 x2), ())) (fun r4 => (cnd (fits ((len x4.1) + (len (r4.1.1 :: ([] : List tPoint)))) 3) (sCommitteeOf_D4 (x1, ((iadd .i64 x2 (1 : Int)), (x3, (((app x4.1 (r4.1.1 :: ([] : List tPoint))), x4.2), ()))))) none))) none) (some ((x4, ()), ())) := (FnD.eqC V sCommitteeOf_c sCommitteeOf_F 4 (x1, (x2, (x3, (x4, ()))))).trans (by kernel_rfl)
theorem sCommitteeOf_k : CallsOk Try.prog gls gvs 66 sCommitteeOf_g := FnD.ok (F := sCommitteeOf_F) (cs := sCommitteeOf_c) V_ok (kC sSecretsOf_k (kC sKeyOf_k kN)) Try.func66 (by decide) (by kernel_rfl)
-- spec.ChainCommittee
noncomputable def sChainCommittee_F : FnD := { f := 36, fn := Try.f36, ps := [pa TChain, pa (.int .i64)], rs := [⟨TCommittee, (.pr (.own 0 .sh) .sh), false⟩] }
noncomputable def sChainCommittee_c : List (Nat × Sig) := [(66, sCommitteeOf_g)]
noncomputable def sChainCommittee_d : tChain × Int × Unit → Option ((tCommittee × Unit) × Unit) := sChainCommittee_F.d V sChainCommittee_c
noncomputable abbrev sChainCommittee_g : Sig := sChainCommittee_F.t.sig sChainCommittee_d
theorem sChainCommittee_b (x1 : tChain) (x2 : Int) : sChainCommittee_d (x1, (x2, ())) = cnd (nz (1000 : Int)) (cnd (nz (1000 : Int)) (bnd (sCommitteeOf_d ((iadd .i64 (irem x1.1 (1000 : Int)) (imul .i64 (irem x2 (1000 : Int)) (13 : Int))), ())) (fun r2 => (some ((r2.1.1, ()), ())))) none) none := (FnD.eq V sChainCommittee_c sChainCommittee_F (x1, (x2, ()))).trans (by kernel_rfl)
theorem sChainCommittee_k : CallsOk Try.prog gls gvs 36 sChainCommittee_g := FnD.ok (F := sChainCommittee_F) (cs := sChainCommittee_c) V_ok (kC sCommitteeOf_k kN) Try.func36 (by decide) (by kernel_rfl)
-- impl.seedOf
noncomputable def iSeedOf_F : FnD := { f := 68, fn := Try.f68, ps := [pa TChain, pa (.int .i64)], rs := [rt (.int .i64)] }
noncomputable def iSeedOf_c : List (Nat × Sig) := []
noncomputable def iSeedOf_d : tChain × Int × Unit → Option ((Int × Unit) × Unit) := iSeedOf_F.d V iSeedOf_c
noncomputable abbrev iSeedOf_g : Sig := iSeedOf_F.t.sig iSeedOf_d
theorem iSeedOf_b (x1 : tChain) (x2 : Int) : iSeedOf_d (x1, (x2, ())) = cnd (nz (1000 : Int)) (cnd (nz (1000 : Int)) (some (((iadd .i64 (irem x1.1 (1000 : Int)) (imul .i64 (13 : Int) (irem x2 (1000 : Int)))), ()), ())) none) none := (FnD.eq V iSeedOf_c iSeedOf_F (x1, (x2, ()))).trans (by kernel_rfl)
theorem iSeedOf_k : CallsOk Try.prog gls gvs 68 iSeedOf_g := FnD.ok (F := iSeedOf_F) (cs := iSeedOf_c) V_ok kN Try.func68 (by decide) (by kernel_rfl)
-- impl.remainder
noncomputable def iRemainder_F : FnD := { f := 109, fn := Try.f109, ps := [pa (.int .i64), pa (.int .i64)], rs := [rt (.int .i64)] }
noncomputable def iRemainder_c : List (Nat × Sig) := []
noncomputable def iRemainder_d : Int × Int × Unit → Option ((Int × Unit) × Unit) := iRemainder_F.d V iRemainder_c
noncomputable abbrev iRemainder_g : Sig := iRemainder_F.t.sig iRemainder_d
theorem iRemainder_b (x1 : Int) (x2 : Int) : iRemainder_d (x1, (x2, ())) = cnd (nz x2) (cnd (ilt (irem x1 x2) (0 : Int)) (some (((iadd .i64 (irem x1 x2) x2), ()), ())) (some (((irem x1 x2), ()), ()))) none := (FnD.eq V iRemainder_c iRemainder_F (x1, (x2, ()))).trans (by kernel_rfl)
theorem iRemainder_k : CallsOk Try.prog gls gvs 109 iRemainder_g := FnD.ok (F := iRemainder_F) (cs := iRemainder_c) V_ok kN Try.func109 (by decide) (by kernel_rfl)
-- impl.SecretsOf
noncomputable def iSecretsOf_F : FnD := { f := 94, fn := Try.f94, ps := [pa (.int .i64)], rs := [⟨(.sl (.int .i64)), (.own 0 .sh), false⟩], cuts := [(4, [.val 0 (.int .i64) .sh, .val 3 (.sl (.int .i64)) (.own 0 .sh), .val 7 (.int .i64) .sh])] }
noncomputable def iSecretsOf_c : List (Nat × Sig) := [(109, iRemainder_g)]
noncomputable def iSecretsOf_d : Int × Unit → Option (((List Int) × Unit) × Unit) := iSecretsOf_F.d V iSecretsOf_c
noncomputable abbrev iSecretsOf_g : Sig := iSecretsOf_F.t.sig iSecretsOf_d
noncomputable def iSecretsOf_D4 : Int × (List Int) × Int × Unit → Option (((List Int) × Unit) × Unit) := iSecretsOf_F.D V iSecretsOf_c 4
theorem iSecretsOf_b (x1 : Int) : iSecretsOf_d (x1, ()) = bnd (iRemainder_d (x1, ((1000 : Int), ()))) (fun r1 => (iSecretsOf_D4 (r1.1.1, (([] : List Int), ((0 : Int), ()))))) := (FnD.eq V iSecretsOf_c iSecretsOf_F (x1, ())).trans (by kernel_rfl)
theorem iSecretsOf_q4 (x1 : Int) (x2 : (List Int)) (x3 : Int) : iSecretsOf_D4 (x1, (x2, (x3, ()))) = cnd (ilt x3 (8 : Int)) (cnd (nz (1007 : Int)) (cnd (fits ((len x2) + (len ((iadd .i64 (1 : Int) (irem (iadd .i64 (iadd .i64 (imul .i64 x1 (31 : Int)) (imul .i64 x3 (57 : Int))) (7 : Int)) (1007 : Int))) :: ([] : List Int)))) 1) (iSecretsOf_D4 (x1, ((app x2 ((iadd .i64 (1 : Int) (irem (iadd .i64 (iadd .i64 (imul .i64 x1 (31 : Int)) (imul .i64 x3 (57 : Int))) (7 : Int)) (1007 : Int))) :: ([] : List Int))), ((iadd .i64 x3 (1 : Int)), ())))) none) none) (some ((x2, ()), ())) := (FnD.eqC V iSecretsOf_c iSecretsOf_F 4 (x1, (x2, (x3, ())))).trans (by kernel_rfl)
theorem iSecretsOf_k : CallsOk Try.prog gls gvs 94 iSecretsOf_g := FnD.ok (F := iSecretsOf_F) (cs := iSecretsOf_c) V_ok (kC iRemainder_k kN) Try.func94 (by decide) (by kernel_rfl)
-- impl.ScOf
noncomputable def iScOf_F : FnD := { f := 111, fn := Try.f111, ps := [pa (.int .i64)], rs := [rt (.int .i64)] }
noncomputable def iScOf_c : List (Nat × Sig) := [(109, iRemainder_g)]
noncomputable def iScOf_d : Int × Unit → Option ((Int × Unit) × Unit) := iScOf_F.d V iScOf_c
noncomputable abbrev iScOf_g : Sig := iScOf_F.t.sig iScOf_d
theorem iScOf_b (x1 : Int) : iScOf_d (x1, ()) = bnd (iRemainder_d (x1, ((1009 : Int), ()))) (fun r1 => (some ((r1.1.1, ()), ()))) := (FnD.eq V iScOf_c iScOf_F (x1, ())).trans (by kernel_rfl)
theorem iScOf_k : CallsOk Try.prog gls gvs 111 iScOf_g := FnD.ok (F := iScOf_F) (cs := iScOf_c) V_ok (kC iRemainder_k kN) Try.func111 (by decide) (by kernel_rfl)
-- impl.Base
noncomputable def iBase_F : FnD := { f := 112, fn := Try.f112, ps := [], rs := [rt TPoint] }
noncomputable def iBase_c : List (Nat × Sig) := []
noncomputable def iBase_d : Unit → Option ((tPoint × Unit) × Unit) := iBase_F.d V iBase_c
noncomputable abbrev iBase_g : Sig := iBase_F.t.sig iBase_d
theorem iBase_b : iBase_d () = some ((((8445 : Int), ((859 : Int), (false, ()))), ()), ()) := (FnD.eq V iBase_c iBase_F ()).trans (by kernel_rfl)
theorem iBase_k : CallsOk Try.prog gls gvs 112 iBase_g := FnD.ok (F := iBase_F) (cs := iBase_c) V_ok kN Try.func112 (by decide) (by kernel_rfl)
-- impl.FpOk
noncomputable def iFpOk_F : FnD := { f := 127, fn := Try.f127, ps := [pa (.int .i64)], rs := [rt .bool] }
noncomputable def iFpOk_c : List (Nat × Sig) := []
noncomputable def iFpOk_d : Int × Unit → Option ((Bool × Unit) × Unit) := iFpOk_F.d V iFpOk_c
noncomputable abbrev iFpOk_g : Sig := iFpOk_F.t.sig iFpOk_d
theorem iFpOk_b (x1 : Int) : iFpOk_d (x1, ()) = cnd (ige x1 (0 : Int)) (some (((ilt x1 (12107 : Int)), ()), ())) (some ((false, ()), ())) := (FnD.eq V iFpOk_c iFpOk_F (x1, ())).trans (by kernel_rfl)
theorem iFpOk_k : CallsOk Try.prog gls gvs 127 iFpOk_g := FnD.ok (F := iFpOk_F) (cs := iFpOk_c) V_ok kN Try.func127 (by decide) (by kernel_rfl)
-- impl.FpOf
noncomputable def iFpOf_F : FnD := { f := 135, fn := Try.f135, ps := [pa (.int .i64)], rs := [rt (.int .i64)] }
noncomputable def iFpOf_c : List (Nat × Sig) := [(109, iRemainder_g)]
noncomputable def iFpOf_d : Int × Unit → Option ((Int × Unit) × Unit) := iFpOf_F.d V iFpOf_c
noncomputable abbrev iFpOf_g : Sig := iFpOf_F.t.sig iFpOf_d
theorem iFpOf_b (x1 : Int) : iFpOf_d (x1, ()) = bnd (iRemainder_d (x1, ((12107 : Int), ()))) (fun r1 => (some ((r1.1.1, ()), ()))) := (FnD.eq V iFpOf_c iFpOf_F (x1, ())).trans (by kernel_rfl)
theorem iFpOf_k : CallsOk Try.prog gls gvs 135 iFpOf_g := FnD.ok (F := iFpOf_F) (cs := iFpOf_c) V_ok (kC iRemainder_k kN) Try.func135 (by decide) (by kernel_rfl)
-- impl.FpMul
noncomputable def iFpMul_F : FnD := { f := 128, fn := Try.f128, ps := [pa (.int .i64), pa (.int .i64)], rs := [rt (.int .i64)] }
noncomputable def iFpMul_c : List (Nat × Sig) := [(135, iFpOf_g)]
noncomputable def iFpMul_d : Int × Int × Unit → Option ((Int × Unit) × Unit) := iFpMul_F.d V iFpMul_c
noncomputable abbrev iFpMul_g : Sig := iFpMul_F.t.sig iFpMul_d
theorem iFpMul_b (x1 : Int) (x2 : Int) : iFpMul_d (x1, (x2, ())) = bnd (iFpOf_d (x1, ())) (fun r2 => (bnd (iFpOf_d (x2, ())) (fun r3 => (bnd (iFpOf_d ((imul .i64 r2.1.1 r3.1.1), ())) (fun r4 => (some ((r4.1.1, ()), ()))))))) := (FnD.eq V iFpMul_c iFpMul_F (x1, (x2, ()))).trans (by kernel_rfl)
theorem iFpMul_k : CallsOk Try.prog gls gvs 128 iFpMul_g := FnD.ok (F := iFpMul_F) (cs := iFpMul_c) V_ok (kC iFpOf_k kN) Try.func128 (by decide) (by kernel_rfl)
-- impl.FpAdd
noncomputable def iFpAdd_F : FnD := { f := 136, fn := Try.f136, ps := [pa (.int .i64), pa (.int .i64)], rs := [rt (.int .i64)] }
noncomputable def iFpAdd_c : List (Nat × Sig) := [(135, iFpOf_g)]
noncomputable def iFpAdd_d : Int × Int × Unit → Option ((Int × Unit) × Unit) := iFpAdd_F.d V iFpAdd_c
noncomputable abbrev iFpAdd_g : Sig := iFpAdd_F.t.sig iFpAdd_d
theorem iFpAdd_b (x1 : Int) (x2 : Int) : iFpAdd_d (x1, (x2, ())) = bnd (iFpOf_d (x1, ())) (fun r2 => (bnd (iFpOf_d (x2, ())) (fun r3 => (bnd (iFpOf_d ((iadd .i64 r2.1.1 r3.1.1), ())) (fun r4 => (some ((r4.1.1, ()), ()))))))) := (FnD.eq V iFpAdd_c iFpAdd_F (x1, (x2, ()))).trans (by kernel_rfl)
theorem iFpAdd_k : CallsOk Try.prog gls gvs 136 iFpAdd_g := FnD.ok (F := iFpAdd_F) (cs := iFpAdd_c) V_ok (kC iFpOf_k kN) Try.func136 (by decide) (by kernel_rfl)
-- impl.curveAt
noncomputable def iCurveAt_F : FnD := { f := 129, fn := Try.f129, ps := [pa (.int .i64)], rs := [rt (.int .i64)] }
noncomputable def iCurveAt_c : List (Nat × Sig) := [(128, iFpMul_g), (136, iFpAdd_g)]
noncomputable def iCurveAt_d : Int × Unit → Option ((Int × Unit) × Unit) := iCurveAt_F.d V iCurveAt_c
noncomputable abbrev iCurveAt_g : Sig := iCurveAt_F.t.sig iCurveAt_d
theorem iCurveAt_b (x1 : Int) : iCurveAt_d (x1, ()) = bnd (iFpMul_d (x1, (x1, ()))) (fun r1 => (bnd (iFpMul_d (r1.1.1, (x1, ()))) (fun r2 => (bnd (iFpAdd_d (r2.1.1, (x1, ()))) (fun r3 => (some ((r3.1.1, ()), ()))))))) := (FnD.eq V iCurveAt_c iCurveAt_F (x1, ())).trans (by kernel_rfl)
theorem iCurveAt_k : CallsOk Try.prog gls gvs 129 iCurveAt_g := FnD.ok (F := iCurveAt_F) (cs := iCurveAt_c) V_ok (kC iFpMul_k (kC iFpAdd_k kN)) Try.func129 (by decide) (by kernel_rfl)
-- impl.PointOk
noncomputable def iPointOk_F : FnD := { f := 120, fn := Try.f120, ps := [pa TPoint], rs := [rt .bool] }
noncomputable def iPointOk_c : List (Nat × Sig) := [(127, iFpOk_g), (128, iFpMul_g), (129, iCurveAt_g)]
noncomputable def iPointOk_d : tPoint × Unit → Option ((Bool × Unit) × Unit) := iPointOk_F.d V iPointOk_c
noncomputable abbrev iPointOk_g : Sig := iPointOk_F.t.sig iPointOk_d
theorem iPointOk_b (x1 : tPoint) : iPointOk_d (x1, ()) = cnd x1.2.2.1 (cnd (ieq x1.1 (0 : Int)) (some (((ieq x1.2.1 (0 : Int)), ()), ())) (some ((false, ()), ()))) (bnd (iFpOk_d (x1.1, ())) (fun r1 => (cnd r1.1.1 (bnd (iFpOk_d (x1.2.1, ())) (fun r2 => (cnd r2.1.1 (bnd (iFpMul_d (x1.2.1, (x1.2.1, ()))) (fun r3 => (bnd (iCurveAt_d (x1.1, ())) (fun r4 => (some (((ieq r3.1.1 r4.1.1), ()), ())))))) (some ((false, ()), ()))))) (some ((false, ()), ()))))) := (FnD.eq V iPointOk_c iPointOk_F (x1, ())).trans (by kernel_rfl)
theorem iPointOk_k : CallsOk Try.prog gls gvs 120 iPointOk_g := FnD.ok (F := iPointOk_F) (cs := iPointOk_c) V_ok (kC iFpOk_k (kC iFpMul_k (kC iCurveAt_k kN))) Try.func120 (by decide) (by kernel_rfl)
-- impl.FpSub
noncomputable def iFpSub_F : FnD := { f := 131, fn := Try.f131, ps := [pa (.int .i64), pa (.int .i64)], rs := [rt (.int .i64)] }
noncomputable def iFpSub_c : List (Nat × Sig) := [(135, iFpOf_g)]
noncomputable def iFpSub_d : Int × Int × Unit → Option ((Int × Unit) × Unit) := iFpSub_F.d V iFpSub_c
noncomputable abbrev iFpSub_g : Sig := iFpSub_F.t.sig iFpSub_d
theorem iFpSub_b (x1 : Int) (x2 : Int) : iFpSub_d (x1, (x2, ())) = bnd (iFpOf_d (x1, ())) (fun r2 => (bnd (iFpOf_d (x2, ())) (fun r3 => (bnd (iFpOf_d ((isub .i64 r2.1.1 r3.1.1), ())) (fun r4 => (some ((r4.1.1, ()), ()))))))) := (FnD.eq V iFpSub_c iFpSub_F (x1, (x2, ()))).trans (by kernel_rfl)
theorem iFpSub_k : CallsOk Try.prog gls gvs 131 iFpSub_g := FnD.ok (F := iFpSub_F) (cs := iFpSub_c) V_ok (kC iFpOf_k kN) Try.func131 (by decide) (by kernel_rfl)
-- impl.powerMod
noncomputable def iPowerMod_F : FnD := { f := 139, fn := Try.f139, ps := [pa (.int .i64), pa (.int .i64), pa (.int .i64)], rs := [rt (.int .i64)], joins := [6], cuts := [(6, [.val 0 (.int .i64) .sh, .val 1 (.int .i64) .sh, .val 2 (.int .i64) .sh, .val 7 (.int .i64) .sh]), (3, [.val 0 (.int .i64) .sh, .val 1 (.int .i64) .sh, .val 2 (.int .i64) .sh, .val 7 (.int .i64) .sh])] }
noncomputable def iPowerMod_c : List (Nat × Sig) := [(109, iRemainder_g)]
noncomputable def iPowerMod_d : Int × Int × Int × Unit → Option ((Int × Unit) × Unit) := iPowerMod_F.d V iPowerMod_c
noncomputable abbrev iPowerMod_g : Sig := iPowerMod_F.t.sig iPowerMod_d
noncomputable def iPowerMod_D6 : Int × Int × Int × Int × Unit → Option ((Int × Unit) × Unit) := iPowerMod_F.D V iPowerMod_c 6
noncomputable def iPowerMod_D3 : Int × Int × Int × Int × Unit → Option ((Int × Unit) × Unit) := iPowerMod_F.D V iPowerMod_c 3
theorem iPowerMod_b (x1 : Int) (x2 : Int) (x3 : Int) : iPowerMod_d (x1, (x2, (x3, ()))) = bnd (iRemainder_d (x1, (x3, ()))) (fun r3 => (iPowerMod_D3 (r3.1.1, (x2, (x3, ((1 : Int), ())))))) := (FnD.eq V iPowerMod_c iPowerMod_F (x1, (x2, (x3, ())))).trans (by kernel_rfl)
theorem iPowerMod_q6 (x1 : Int) (x2 : Int) (x3 : Int) (x4 : Int) : iPowerMod_D6 (x1, (x2, (x3, (x4, ())))) = cnd (nz x3) (cnd (nz (2 : Int)) (iPowerMod_D3 ((irem (imul .i64 x1 x1) x3), ((iquo .i64 x2 (2 : Int)), (x3, (x4, ()))))) none) none := (FnD.eqC V iPowerMod_c iPowerMod_F 6 (x1, (x2, (x3, (x4, ()))))).trans (by kernel_rfl)
theorem iPowerMod_q3 (x1 : Int) (x2 : Int) (x3 : Int) (x4 : Int) : iPowerMod_D3 (x1, (x2, (x3, (x4, ())))) = cnd (igt x2 (0 : Int)) (cnd (nz (2 : Int)) (cnd (ieq (irem x2 (2 : Int)) (1 : Int)) (cnd (nz x3) (iPowerMod_D6 (x1, (x2, (x3, ((irem (imul .i64 x4 x1) x3), ()))))) none) (iPowerMod_D6 (x1, (x2, (x3, (x4, ())))))) none) (some ((x4, ()), ())) := (FnD.eqC V iPowerMod_c iPowerMod_F 3 (x1, (x2, (x3, (x4, ()))))).trans (by kernel_rfl)
theorem iPowerMod_k : CallsOk Try.prog gls gvs 139 iPowerMod_g := FnD.ok (F := iPowerMod_F) (cs := iPowerMod_c) V_ok (kC iRemainder_k kN) Try.func139 (by decide) (by kernel_rfl)
-- impl.FpInv
noncomputable def iFpInv_F : FnD := { f := 137, fn := Try.f137, ps := [pa (.int .i64)], rs := [rt (.int .i64)] }
noncomputable def iFpInv_c : List (Nat × Sig) := [(139, iPowerMod_g)]
noncomputable def iFpInv_d : Int × Unit → Option ((Int × Unit) × Unit) := iFpInv_F.d V iFpInv_c
noncomputable abbrev iFpInv_g : Sig := iFpInv_F.t.sig iFpInv_d
theorem iFpInv_b (x1 : Int) : iFpInv_d (x1, ()) = bnd (iPowerMod_d (x1, ((12105 : Int), ((12107 : Int), ())))) (fun r1 => (some ((r1.1.1, ()), ()))) := (FnD.eq V iFpInv_c iFpInv_F (x1, ())).trans (by kernel_rfl)
theorem iFpInv_k : CallsOk Try.prog gls gvs 137 iFpInv_g := FnD.ok (F := iFpInv_F) (cs := iFpInv_c) V_ok (kC iPowerMod_k kN) Try.func137 (by decide) (by kernel_rfl)
-- impl.slopeOf
noncomputable def iSlopeOf_F : FnD := { f := 130, fn := Try.f130, ps := [pa TPoint, pa TPoint], rs := [rt (.int .i64), rt .bool] }
noncomputable def iSlopeOf_c : List (Nat × Sig) := [(131, iFpSub_g), (137, iFpInv_g), (128, iFpMul_g), (136, iFpAdd_g)]
noncomputable def iSlopeOf_d : tPoint × tPoint × Unit → Option ((Int × Bool × Unit) × Unit) := iSlopeOf_F.d V iSlopeOf_c
noncomputable abbrev iSlopeOf_g : Sig := iSlopeOf_F.t.sig iSlopeOf_d
theorem iSlopeOf_b (x1 : tPoint) (x2 : tPoint) : iSlopeOf_d (x1, (x2, ())) = cnd (ine x1.1 x2.1) (bnd (iFpSub_d (x2.2.1, (x1.2.1, ()))) (fun r2 => (bnd (iFpSub_d (x2.1, (x1.1, ()))) (fun r3 => (bnd (iFpInv_d (r3.1.1, ())) (fun r4 => (bnd (iFpMul_d (r2.1.1, (r4.1.1, ()))) (fun r5 => (some ((r5.1.1, (true, ())), ())))))))))) (cnd (ine x1.2.1 x2.2.1) (some (((0 : Int), (false, ())), ())) (cnd (ieq x1.2.1 (0 : Int)) (some (((0 : Int), (false, ())), ())) (bnd (iFpMul_d (x1.1, (x1.1, ()))) (fun r2 => (bnd (iFpMul_d ((3 : Int), (r2.1.1, ()))) (fun r3 => (bnd (iFpAdd_d (r3.1.1, ((1 : Int), ()))) (fun r4 => (bnd (iFpMul_d ((2 : Int), (x1.2.1, ()))) (fun r5 => (bnd (iFpInv_d (r5.1.1, ())) (fun r6 => (bnd (iFpMul_d (r4.1.1, (r6.1.1, ()))) (fun r7 => (some ((r7.1.1, (true, ())), ())))))))))))))))) := (FnD.eq V iSlopeOf_c iSlopeOf_F (x1, (x2, ()))).trans (by kernel_rfl)
theorem iSlopeOf_k : CallsOk Try.prog gls gvs 130 iSlopeOf_g := FnD.ok (F := iSlopeOf_F) (cs := iSlopeOf_c) V_ok (kC iFpSub_k (kC iFpInv_k (kC iFpMul_k (kC iFpAdd_k kN)))) Try.func130 (by decide) (by kernel_rfl)
-- impl.add
noncomputable def iAdd_F : FnD := { f := 121, fn := Try.f121, ps := [pa TPoint, pa TPoint], rs := [rt TPoint] }
noncomputable def iAdd_c : List (Nat × Sig) := [(130, iSlopeOf_g), (128, iFpMul_g), (131, iFpSub_g)]
noncomputable def iAdd_d : tPoint × tPoint × Unit → Option ((tPoint × Unit) × Unit) := iAdd_F.d V iAdd_c
noncomputable abbrev iAdd_g : Sig := iAdd_F.t.sig iAdd_d
theorem iAdd_b (x1 : tPoint) (x2 : tPoint) : iAdd_d (x1, (x2, ())) = cnd x1.2.2.1 (some ((x2, ()), ())) (cnd x2.2.2.1 (some ((x1, ()), ())) (bnd (iSlopeOf_d (x1, (x2, ()))) (fun r2 => (cnd (bnot r2.1.2.1) (some ((((0 : Int), ((0 : Int), (true, ()))), ()), ())) (bnd (iFpMul_d (r2.1.1, (r2.1.1, ()))) (fun r3 => (bnd (iFpSub_d (r3.1.1, (x1.1, ()))) (fun r4 => (bnd (iFpSub_d (r4.1.1, (x2.1, ()))) (fun r5 => (bnd (iFpSub_d (x1.1, (r5.1.1, ()))) (fun r6 => (bnd (iFpMul_d (r2.1.1, (r6.1.1, ()))) (fun r7 => (bnd (iFpSub_d (r7.1.1, (x1.2.1, ()))) (fun r8 => (some (((r5.1.1, (r8.1.1, (false, ()))), ()), ())))))))))))))))))) := (FnD.eq V iAdd_c iAdd_F (x1, (x2, ()))).trans (by kernel_rfl)
theorem iAdd_k : CallsOk Try.prog gls gvs 121 iAdd_g := FnD.ok (F := iAdd_F) (cs := iAdd_c) V_ok (kC iSlopeOf_k (kC iFpMul_k (kC iFpSub_k kN))) Try.func121 (by decide) (by kernel_rfl)
-- impl.PointTimes
noncomputable def iPointTimes_F : FnD := { f := 110, fn := Try.f110, ps := [pa (.int .i64), pa TPoint], rs := [rt TPoint], cuts := [(5, [.val 0 (.int .i64) .sh, .box 3 TPoint .sh, .box 4 TPoint .sh, .box 5 TPoint .sh, .ptr 3 3 0, .ptr 4 4 0, .ptr 5 5 0])] }
noncomputable def iPointTimes_c : List (Nat × Sig) := [(120, iPointOk_g), (109, iRemainder_g), (121, iAdd_g)]
noncomputable def iPointTimes_d : Int × tPoint × Unit → Option ((tPoint × Unit) × Unit) := iPointTimes_F.d V iPointTimes_c
noncomputable abbrev iPointTimes_g : Sig := iPointTimes_F.t.sig iPointTimes_d
noncomputable def iPointTimes_D5 : Int × tPoint × tPoint × tPoint × Unit → Option ((tPoint × Unit) × Unit) := iPointTimes_F.D V iPointTimes_c 5
theorem iPointTimes_b (x1 : Int) (x2 : tPoint) : iPointTimes_d (x1, (x2, ())) = bnd (iPointOk_d (x2, ())) (fun r2 => (cnd (bnot r2.1.1) (some ((((0 : Int), ((0 : Int), (true, ()))), ()), ())) (bnd (iRemainder_d (x1, ((12108 : Int), ()))) (fun r3 => (iPointTimes_D5 (r3.1.1, (x2, (zPoint, (((0 : Int), ((0 : Int), (true, ()))), ()))))))))) := (FnD.eq V iPointTimes_c iPointTimes_F (x1, (x2, ()))).trans (by kernel_rfl)
theorem iPointTimes_q5 (x1 : Int) (x2 : tPoint) (x3 : tPoint) (x4 : tPoint) : iPointTimes_D5 (x1, (x2, (x3, (x4, ())))) = cnd (igt x1 (0 : Int)) (cnd (nz (2 : Int)) (cnd (ieq (irem x1 (2 : Int)) (1 : Int)) (bnd (iAdd_d (x4, (x2, ()))) (fun r4 => (bnd (iAdd_d (x2, (x2, ()))) (fun r5 => (cnd (nz (2 : Int)) (iPointTimes_D5 ((iquo .i64 x1 (2 : Int)), (r5.1.1, (x3, (r4.1.1, ()))))) none))))) (bnd (iAdd_d (x2, (x2, ()))) (fun r4 => (cnd (nz (2 : Int)) (iPointTimes_D5 ((iquo .i64 x1 (2 : Int)), (r4.1.1, (x3, (x4, ()))))) none)))) none) (some ((x4, ()), ())) := (FnD.eqC V iPointTimes_c iPointTimes_F 5 (x1, (x2, (x3, (x4, ()))))).trans (by kernel_rfl)
theorem iPointTimes_k : CallsOk Try.prog gls gvs 110 iPointTimes_g := FnD.ok (F := iPointTimes_F) (cs := iPointTimes_c) V_ok (kC iPointOk_k (kC iRemainder_k (kC iAdd_k kN))) Try.func110 (by decide) (by kernel_rfl)
-- impl.KeyOf
noncomputable def iKeyOf_F : FnD := { f := 95, fn := Try.f95, ps := [pa (.int .i64)], rs := [rt TPoint] }
noncomputable def iKeyOf_c : List (Nat × Sig) := [(111, iScOf_g), (112, iBase_g), (110, iPointTimes_g)]
noncomputable def iKeyOf_d : Int × Unit → Option ((tPoint × Unit) × Unit) := iKeyOf_F.d V iKeyOf_c
noncomputable abbrev iKeyOf_g : Sig := iKeyOf_F.t.sig iKeyOf_d
theorem iKeyOf_b (x1 : Int) : iKeyOf_d (x1, ()) = bnd (iScOf_d (x1, ())) (fun r1 => (bnd (iBase_d ()) (fun r2 => (bnd (iPointTimes_d (r1.1.1, (r2.1.1, ()))) (fun r3 => (some ((r3.1.1, ()), ()))))))) := (FnD.eq V iKeyOf_c iKeyOf_F (x1, ())).trans (by kernel_rfl)
theorem iKeyOf_k : CallsOk Try.prog gls gvs 95 iKeyOf_g := FnD.ok (F := iKeyOf_F) (cs := iKeyOf_c) V_ok (kC iScOf_k (kC iBase_k (kC iPointTimes_k kN))) Try.func95 (by decide) (by kernel_rfl)
-- impl.CommitteeOf
noncomputable def iCommitteeOf_F : FnD := { f := 67, fn := Try.f67, ps := [pa (.int .i64)], rs := [⟨TCommittee, (.pr (.own 0 .sh) .sh), false⟩], cuts := [(3, [.val 7 (.sl (.int .i64)) (.own 0 .sh), .val 8 (.int .i64) .sh, .val 9 (.int .i64) .sh, .box 2 TCommittee (.pr (.own 0 .sh) .sh), .box 3 TCommittee (.pr (.own 0 .sh) .sh), .ptr 2 2 0, .ptr 3 3 0])] }
noncomputable def iCommitteeOf_c : List (Nat × Sig) := [(94, iSecretsOf_g), (95, iKeyOf_g)]
noncomputable def iCommitteeOf_d : Int × Unit → Option ((tCommittee × Unit) × Unit) := iCommitteeOf_F.d V iCommitteeOf_c
noncomputable abbrev iCommitteeOf_g : Sig := iCommitteeOf_F.t.sig iCommitteeOf_d
noncomputable def iCommitteeOf_D3 : (List Int) × Int × Int × tCommittee × tCommittee × Unit → Option ((tCommittee × Unit) × Unit) := iCommitteeOf_F.D V iCommitteeOf_c 3
theorem iCommitteeOf_b (x1 : Int) : iCommitteeOf_d (x1, ()) = bnd (iSecretsOf_d (x1, ())) (fun r1 => (iCommitteeOf_D3 (r1.1.1, ((len r1.1.1), ((0 : Int), (zCommittee, (zCommittee, ()))))))) := (FnD.eq V iCommitteeOf_c iCommitteeOf_F (x1, ())).trans (by kernel_rfl)
theorem iCommitteeOf_q3 (x1 : (List Int)) (x2 : Int) (x3 : Int) (x4 : tCommittee) (x5 : tCommittee) : iCommitteeOf_D3 (x1, (x2, (x3, (x4, (x5, ()))))) = cnd (ilt x3 x2) (cnd (inb x3 (len x1)) (bnd (iKeyOf_d ((rd (0 : Int) x1 x3), ())) (fun r5 => (cnd (fits ((len x5.1) + (len (r5.1.1 :: ([] : List tPoint)))) 3) (iCommitteeOf_D3 (x1, (x2, ((iadd .i64 x3 (1 : Int)), (x4, (((app x5.1 (r5.1.1 :: ([] : List tPoint))), x5.2), ())))))) none))) none) (some ((x5, ()), ())) := (FnD.eqC V iCommitteeOf_c iCommitteeOf_F 3 (x1, (x2, (x3, (x4, (x5, ())))))).trans (by kernel_rfl)
theorem iCommitteeOf_k : CallsOk Try.prog gls gvs 67 iCommitteeOf_g := FnD.ok (F := iCommitteeOf_F) (cs := iCommitteeOf_c) V_ok (kC iSecretsOf_k (kC iKeyOf_k kN)) Try.func67 (by decide) (by kernel_rfl)
-- impl.ChainCommittee
noncomputable def iChainCommittee_F : FnD := { f := 37, fn := Try.f37, ps := [pa TChain, pa (.int .i64)], rs := [⟨TCommittee, (.pr (.own 0 .sh) .sh), false⟩] }
noncomputable def iChainCommittee_c : List (Nat × Sig) := [(68, iSeedOf_g), (67, iCommitteeOf_g)]
noncomputable def iChainCommittee_d : tChain × Int × Unit → Option ((tCommittee × Unit) × Unit) := iChainCommittee_F.d V iChainCommittee_c
noncomputable abbrev iChainCommittee_g : Sig := iChainCommittee_F.t.sig iChainCommittee_d
theorem iChainCommittee_b (x1 : tChain) (x2 : Int) : iChainCommittee_d (x1, (x2, ())) = bnd (iSeedOf_d (x1, (x2, ()))) (fun r2 => (bnd (iCommitteeOf_d (r2.1.1, ())) (fun r3 => (some ((r3.1.1, ()), ()))))) := (FnD.eq V iChainCommittee_c iChainCommittee_F (x1, (x2, ()))).trans (by kernel_rfl)
theorem iChainCommittee_k : CallsOk Try.prog gls gvs 37 iChainCommittee_g := FnD.ok (F := iChainCommittee_F) (cs := iChainCommittee_c) V_ok (kC iSeedOf_k (kC iCommitteeOf_k kN)) Try.func37 (by decide) (by kernel_rfl)
-- laws.FnExactChainCommittee
noncomputable def wFnExactChainCommittee_F : FnD := { f := 9, fn := Try.f9, ps := [pa TChain, pa (.int .i64)], rs := [rt .bool] }
noncomputable def wFnExactChainCommittee_c : List (Nat × Sig) := [(14, wSzChain_g), (16, wToChain_g), (36, sChainCommittee_g), (37, iChainCommittee_g), (38, wEqCommittee_g), (18, wEqChain_g), (22, wMarkChain_g), (39, wMarkCommittee_g), (40, wHeldCommittee_g)]
noncomputable def wFnExactChainCommittee_d : tChain × Int × Unit → Option ((Bool × Unit) × Unit) := wFnExactChainCommittee_F.d V wFnExactChainCommittee_c
noncomputable abbrev wFnExactChainCommittee_g : Sig := wFnExactChainCommittee_F.t.sig wFnExactChainCommittee_d
theorem wFnExactChainCommittee_b (x1 : tChain) (x2 : Int) : wFnExactChainCommittee_d (x1, (x2, ())) = bnd (wSzChain_d (x1, ((1048576 : Int), ()))) (fun r2 => (cnd (ilt r2.1.1 (0 : Int)) (some ((true, ()), ())) (bnd (wToChain_d (x1, ())) (fun r3 => (bnd (sChainCommittee_d (r3.1.1, (x2, ()))) (fun r4 => (bnd (wToChain_d (x1, ())) (fun r5 => (bnd (iChainCommittee_d (r5.1.1, (x2, ()))) (fun r6 => (bnd (wEqCommittee_d (r6.1.1, (r4.1.1, ()))) (fun r7 => (cnd (bnot r7.1.1) (some ((false, ()), ())) (bnd (wToChain_d (x1, ())) (fun r8 => (bnd (wEqChain_d (r5.1.1, (r8.1.1, ()))) (fun r9 => (cnd (bnot r9.1.1) (some ((false, ()), ())) (bnd (wMarkChain_d (r5.1.1, ((1 : Int), ()))) (fun r10 => (cnd (ilt r10.1.1 (0 : Int)) (some ((false, ()), ())) (bnd (wEqCommittee_d (r6.1.1, (r4.1.1, ()))) (fun r11 => (cnd (bnot r11.1.1) (some ((false, ()), ())) (bnd (wMarkCommittee_d (r6.1.1, ((1 : Int), ()))) (fun r12 => (bnd (wHeldCommittee_d ((r12.2.1.1, r6.1.1.2), ((1 : Int), ()))) (fun r13 => (cnd (ilt r13.1.1 (0 : Int)) (some ((false, ()), ())) (cnd (ine r13.1.1 r12.1.1) (some ((false, ()), ())) (bnd (wToChain_d (x1, ())) (fun r14 => (bnd (iChainCommittee_d (r14.1.1, (x2, ()))) (fun r15 => (bnd (wEqCommittee_d (r15.1.1, (r4.1.1, ()))) (fun r16 => (cnd (bnot r16.1.1) (some ((false, ()), ())) (bnd (wHeldCommittee_d ((r12.2.1.1, r6.1.1.2), ((1 : Int), ()))) (fun r17 => (cnd (ilt r17.1.1 (0 : Int)) (some ((false, ()), ())) (cnd (ine r17.1.1 r12.1.1) (some ((false, ()), ())) (some ((true, ()), ()))))))))))))))))))))))))))))))))))))))))))) := (FnD.eq V wFnExactChainCommittee_c wFnExactChainCommittee_F (x1, (x2, ()))).trans (by kernel_rfl)
theorem wFnExactChainCommittee_k : CallsOk Try.prog gls gvs 9 wFnExactChainCommittee_g := FnD.ok (F := wFnExactChainCommittee_F) (cs := wFnExactChainCommittee_c) V_ok (kC wSzChain_k (kC wToChain_k (kC sChainCommittee_k (kC iChainCommittee_k (kC wEqCommittee_k (kC wEqChain_k (kC wMarkChain_k (kC wMarkCommittee_k (kC wHeldCommittee_k kN))))))))) Try.func9 (by decide) (by kernel_rfl)
end Go.Proofs.Ytegdhiadikjdbaa
