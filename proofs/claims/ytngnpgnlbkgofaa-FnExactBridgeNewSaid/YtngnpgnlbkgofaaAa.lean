/- What the functions come to: printed by program. Of no condition. -/
import Derived.Test.YtngnpgnlbkgofaaMd
import Derived.Test.YtngnpgnlbkgofaaRows
set_option linter.unusedVariables false
set_option maxRecDepth 100000
namespace Go.Proofs.Ytngnpgnlbkgofaa
open Go.TV
abbrev TPoint : Ty := .prod (.int .i64) (.prod (.int .i64) (.prod .bool .unit))
abbrev tPoint : Type := Int × (Int × (Bool × Unit))
noncomputable def zPoint : tPoint := ((0 : Int), ((0 : Int), (false, ())))
abbrev TToxic : Ty := .prod (.int .i64) (.prod (.int .i64) (.prod (.int .i64) (.prod (.int .i64) (.prod (.int .i64) .unit))))
abbrev tToxic : Type := Int × (Int × (Int × (Int × (Int × Unit))))
noncomputable def zToxic : tToxic := ((0 : Int), ((0 : Int), ((0 : Int), ((0 : Int), ((0 : Int), ())))))
abbrev TCommittee : Ty := .prod (.sl TPoint) .unit
abbrev tCommittee : Type := (List tPoint) × Unit
noncomputable def zCommittee : tCommittee := (([] : List tPoint), ())
abbrev TRow : Ty := .prod (.sl (.int .i64)) (.prod (.sl (.int .i64)) (.prod (.sl (.int .i64)) .unit))
abbrev tRow : Type := (List Int) × ((List Int) × ((List Int) × Unit))
noncomputable def zRow : tRow := (([] : List Int), (([] : List Int), (([] : List Int), ())))
abbrev THead : Ty := .prod (.int .i64) (.prod .str (.prod .str (.prod .str .unit)))
abbrev tHead : Type := Int × (ByteArray × (ByteArray × (ByteArray × Unit)))
noncomputable def zHead : tHead := ((0 : Int), ((bs []), ((bs []), ((bs []), ()))))
abbrev TQap : Ty := .prod (.sl (.sl (.int .i64))) (.prod (.sl (.sl (.int .i64))) (.prod (.sl (.sl (.int .i64))) .unit))
abbrev tQap : Type := (List (List Int)) × ((List (List Int)) × ((List (List Int)) × Unit))
noncomputable def zQap : tQap := (([] : List (List Int)), (([] : List (List Int)), (([] : List (List Int)), ())))
abbrev TSystem : Ty := .prod (.int .i64) (.prod (.int .i64) (.prod (.sl TRow) .unit))
abbrev tSystem : Type := Int × (Int × ((List tRow) × Unit))
noncomputable def zSystem : tSystem := ((0 : Int), ((0 : Int), (([] : List tRow), ())))
abbrev TKeys : Ty := .prod TPoint (.prod TPoint (.prod TPoint (.prod TPoint TCommittee)))
abbrev tKeys : Type := tPoint × (tPoint × (tPoint × (tPoint × tCommittee)))
noncomputable def zKeys : tKeys := (zPoint, (zPoint, (zPoint, (zPoint, zCommittee))))
abbrev TMaker : Ty := .prod TKeys (.prod (.sl TPoint) (.prod (.sl TPoint) (.prod (.sl TPoint) TCommittee)))
abbrev tMaker : Type := tKeys × ((List tPoint) × ((List tPoint) × ((List tPoint) × tCommittee)))
noncomputable def zMaker : tMaker := (zKeys, (([] : List tPoint), (([] : List tPoint), (([] : List tPoint), zCommittee))))
abbrev TClient : Ty := .prod THead (.prod TCommittee (.prod TCommittee (.prod .bool (.prod TKeys .unit))))
abbrev tClient : Type := tHead × (tCommittee × (tCommittee × (Bool × (tKeys × Unit))))
noncomputable def zClient : tClient := (zHead, (zCommittee, (zCommittee, (false, (zKeys, ())))))
abbrev TBridge : Ty := .prod TClient (.prod TClient (.prod .str (.prod (.int .i64) (.prod (.sl .str) (.prod (.int .i64) .unit)))))
abbrev tBridge : Type := tClient × (tClient × (ByteArray × (Int × ((List ByteArray) × (Int × Unit)))))
noncomputable def zBridge : tBridge := (zClient, (zClient, ((bs []), ((0 : Int), (([] : List ByteArray), ((0 : Int), ()))))))
abbrev pa (t : Ty) : Par := { t := t }
abbrev rt (t : Ty) : Rt := { t := t }
noncomputable def tts : List (Nat × Ty) := [(3, (.int .i64)), (4, .bool), (5, (.int .u8)), (9, .str), (23, (.prod (.int .i64) (.prod .str (.prod .str (.prod .str .unit))))), (24, (.sl (.prod (.int .i64) (.prod (.int .i64) (.prod .bool .unit))))), (26, (.prod (.sl (.prod (.int .i64) (.prod (.int .i64) (.prod .bool .unit)))) .unit)), (28, (.prod (.int .i64) (.prod (.int .i64) (.prod .bool .unit)))), (30, (.prod (.prod (.int .i64) (.prod (.int .i64) (.prod .bool .unit))) (.prod (.prod (.int .i64) (.prod (.int .i64) (.prod .bool .unit))) (.prod (.prod (.int .i64) (.prod (.int .i64) (.prod .bool .unit))) (.prod (.prod (.int .i64) (.prod (.int .i64) (.prod .bool .unit))) (.prod (.sl (.prod (.int .i64) (.prod (.int .i64) (.prod .bool .unit)))) .unit)))))), (32, (.prod (.prod (.int .i64) (.prod .str (.prod .str (.prod .str .unit)))) (.prod (.prod (.sl (.prod (.int .i64) (.prod (.int .i64) (.prod .bool .unit)))) .unit) (.prod (.prod (.sl (.prod (.int .i64) (.prod (.int .i64) (.prod .bool .unit)))) .unit) (.prod .bool (.prod (.prod (.prod (.int .i64) (.prod (.int .i64) (.prod .bool .unit))) (.prod (.prod (.int .i64) (.prod (.int .i64) (.prod .bool .unit))) (.prod (.prod (.int .i64) (.prod (.int .i64) (.prod .bool .unit))) (.prod (.prod (.int .i64) (.prod (.int .i64) (.prod .bool .unit))) (.prod (.sl (.prod (.int .i64) (.prod (.int .i64) (.prod .bool .unit)))) .unit))))) .unit)))))), (34, (.prod (.int .i64) (.prod .str (.prod .str (.prod .str .unit))))), (35, (.sl (.prod (.int .i64) (.prod (.int .i64) (.prod .bool .unit))))), (37, (.prod (.sl (.prod (.int .i64) (.prod (.int .i64) (.prod .bool .unit)))) .unit)), (38, (.prod (.int .i64) (.prod (.int .i64) (.prod .bool .unit)))), (40, (.prod (.prod (.int .i64) (.prod (.int .i64) (.prod .bool .unit))) (.prod (.prod (.int .i64) (.prod (.int .i64) (.prod .bool .unit))) (.prod (.prod (.int .i64) (.prod (.int .i64) (.prod .bool .unit))) (.prod (.prod (.int .i64) (.prod (.int .i64) (.prod .bool .unit))) (.prod (.sl (.prod (.int .i64) (.prod (.int .i64) (.prod .bool .unit)))) .unit)))))), (42, (.prod (.prod (.int .i64) (.prod .str (.prod .str (.prod .str .unit)))) (.prod (.prod (.sl (.prod (.int .i64) (.prod (.int .i64) (.prod .bool .unit)))) .unit) (.prod (.prod (.sl (.prod (.int .i64) (.prod (.int .i64) (.prod .bool .unit)))) .unit) (.prod .bool (.prod (.prod (.prod (.int .i64) (.prod (.int .i64) (.prod .bool .unit))) (.prod (.prod (.int .i64) (.prod (.int .i64) (.prod .bool .unit))) (.prod (.prod (.int .i64) (.prod (.int .i64) (.prod .bool .unit))) (.prod (.prod (.int .i64) (.prod (.int .i64) (.prod .bool .unit))) (.prod (.sl (.prod (.int .i64) (.prod (.int .i64) (.prod .bool .unit)))) .unit))))) .unit)))))), (43, (.sl .str)), (45, (.prod (.prod (.prod (.int .i64) (.prod .str (.prod .str (.prod .str .unit)))) (.prod (.prod (.sl (.prod (.int .i64) (.prod (.int .i64) (.prod .bool .unit)))) .unit) (.prod (.prod (.sl (.prod (.int .i64) (.prod (.int .i64) (.prod .bool .unit)))) .unit) (.prod .bool (.prod (.prod (.prod (.int .i64) (.prod (.int .i64) (.prod .bool .unit))) (.prod (.prod (.int .i64) (.prod (.int .i64) (.prod .bool .unit))) (.prod (.prod (.int .i64) (.prod (.int .i64) (.prod .bool .unit))) (.prod (.prod (.int .i64) (.prod (.int .i64) (.prod .bool .unit))) (.prod (.sl (.prod (.int .i64) (.prod (.int .i64) (.prod .bool .unit)))) .unit))))) .unit))))) (.prod (.prod (.prod (.int .i64) (.prod .str (.prod .str (.prod .str .unit)))) (.prod (.prod (.sl (.prod (.int .i64) (.prod (.int .i64) (.prod .bool .unit)))) .unit) (.prod (.prod (.sl (.prod (.int .i64) (.prod (.int .i64) (.prod .bool .unit)))) .unit) (.prod .bool (.prod (.prod (.prod (.int .i64) (.prod (.int .i64) (.prod .bool .unit))) (.prod (.prod (.int .i64) (.prod (.int .i64) (.prod .bool .unit))) (.prod (.prod (.int .i64) (.prod (.int .i64) (.prod .bool .unit))) (.prod (.prod (.int .i64) (.prod (.int .i64) (.prod .bool .unit))) (.prod (.sl (.prod (.int .i64) (.prod (.int .i64) (.prod .bool .unit)))) .unit))))) .unit))))) (.prod .str (.prod (.int .i64) (.prod (.sl .str) (.prod (.int .i64) .unit))))))), (55, (.prod (.prod (.prod (.int .i64) (.prod (.int .i64) (.prod .bool .unit))) (.prod (.prod (.int .i64) (.prod (.int .i64) (.prod .bool .unit))) (.prod (.prod (.int .i64) (.prod (.int .i64) (.prod .bool .unit))) (.prod (.prod (.int .i64) (.prod (.int .i64) (.prod .bool .unit))) (.prod (.sl (.prod (.int .i64) (.prod (.int .i64) (.prod .bool .unit)))) .unit))))) (.prod (.sl (.prod (.int .i64) (.prod (.int .i64) (.prod .bool .unit)))) (.prod (.sl (.prod (.int .i64) (.prod (.int .i64) (.prod .bool .unit)))) (.prod (.sl (.prod (.int .i64) (.prod (.int .i64) (.prod .bool .unit)))) (.prod (.sl (.prod (.int .i64) (.prod (.int .i64) (.prod .bool .unit)))) .unit)))))), (79, (.sl (.prod (.sl (.int .i64)) (.prod (.sl (.int .i64)) (.prod (.sl (.int .i64)) .unit))))), (81, (.prod (.int .i64) (.prod (.int .i64) (.prod (.sl (.prod (.sl (.int .i64)) (.prod (.sl (.int .i64)) (.prod (.sl (.int .i64)) .unit)))) .unit)))), (84, (.prod (.int .i64) (.prod (.int .i64) (.prod (.int .i64) (.prod (.int .i64) (.prod (.int .i64) .unit)))))), (97, (.sl (.sl (.int .i64)))), (99, (.prod (.sl (.sl (.int .i64))) (.prod (.sl (.sl (.int .i64))) (.prod (.sl (.sl (.int .i64))) .unit)))), (104, (.sl (.int .i64))), (109, (.int .u64)), (112, (.prod (.sl (.int .i64)) (.prod (.sl (.int .i64)) (.prod (.sl (.int .i64)) .unit)))), (116, (.sl (.int .u8)))]
theorem tts_ok : ttB Try.prog tts = true := by kernel_rfl
theorem mix_ok : Try.prog.follows .mixedOrders = true := by kernel_rfl
noncomputable def gls : Nat → Option VV := fun _ => none
def gvs (i : Nat) : Value := .pointer (some ⟨i, 0, none⟩)
noncomputable def V : Sur := ⟨ttOf tts, gls⟩
theorem V_ok : SurOk Try.prog V gvs := ⟨fun _ _ => rfl, fun t T h => (ttB_ok tts tts_ok t T h).1, fun t T h => (ttB_ok tts tts_ok t T h).2, mix_ok⟩
theorem kN : ∀ e ∈ ([] : List (Nat × Sig)), CallsOk Try.prog gls gvs e.1 e.2 := fun e h => by cases h
theorem kC {f : Nat} {s : Sig} {L : List (Nat × Sig)} (h : CallsOk Try.prog gls gvs f s) (k : ∀ e ∈ L, CallsOk Try.prog gls gvs e.1 e.2) : ∀ e ∈ (f, s) :: L, CallsOk Try.prog gls gvs e.1 e.2 := List.forall_mem_cons.2 ⟨h, k⟩
-- laws.szHead
noncomputable def wSzHead_F : FnD := { f := 19, fn := Try.f19, ps := [pa THead, pa (.int .i64)], rs := [rt (.int .i64)] }
noncomputable def wSzHead_c : List (Nat × Sig) := []
noncomputable def wSzHead_d : tHead × Int × Unit → Option ((Int × Unit) × Unit) := wSzHead_F.d V wSzHead_c
noncomputable abbrev wSzHead_g : Sig := wSzHead_F.t.sig wSzHead_d
theorem wSzHead_b (x1 : tHead) (x2 : Int) : wSzHead_d (x1, (x2, ())) = cnd (ilt (isub .i64 x2 (ssz x1.2.1)) (0 : Int)) (some (((-1 : Int), ()), ())) (cnd (ilt (isub .i64 (isub .i64 x2 (ssz x1.2.1)) (ssz x1.2.2.1)) (0 : Int)) (some (((-1 : Int), ()), ())) (cnd (ilt (isub .i64 (isub .i64 (isub .i64 x2 (ssz x1.2.1)) (ssz x1.2.2.1)) (ssz x1.2.2.2.1)) (0 : Int)) (some (((-1 : Int), ()), ())) (some (((isub .i64 (isub .i64 (isub .i64 x2 (ssz x1.2.1)) (ssz x1.2.2.1)) (ssz x1.2.2.2.1)), ()), ())))) := (FnD.eq V wSzHead_c wSzHead_F (x1, (x2, ()))).trans (by kernel_rfl)
theorem wSzHead_k : CallsOk Try.prog gls gvs 19 wSzHead_g := FnD.ok (F := wSzHead_F) (cs := wSzHead_c) V_ok kN Try.func19 (by decide) (by kernel_rfl)
-- laws.szPointS
noncomputable def wSzPointS_F : FnD := { f := 47, fn := Try.f47, ps := [pa (.sl TPoint), pa (.int .i64)], rs := [rt (.int .i64)] }
noncomputable def wSzPointS_c : List (Nat × Sig) := []
noncomputable def wSzPointS_d : (List tPoint) × Int × Unit → Option ((Int × Unit) × Unit) := wSzPointS_F.d V wSzPointS_c
noncomputable abbrev wSzPointS_g : Sig := wSzPointS_F.t.sig wSzPointS_d
theorem wSzPointS_b (x1 : (List tPoint)) (x2 : Int) : wSzPointS_d (x1, (x2, ())) = cnd (ilt (isub .i64 x2 (len x1)) (0 : Int)) (some (((-1 : Int), ()), ())) (some (((isub .i64 x2 (len x1)), ()), ())) := (FnD.eq V wSzPointS_c wSzPointS_F (x1, (x2, ()))).trans (by kernel_rfl)
theorem wSzPointS_k : CallsOk Try.prog gls gvs 47 wSzPointS_g := FnD.ok (F := wSzPointS_F) (cs := wSzPointS_c) V_ok kN Try.func47 (by decide) (by kernel_rfl)
-- laws.szCommittee
noncomputable def wSzCommittee_F : FnD := { f := 20, fn := Try.f20, ps := [pa TCommittee, pa (.int .i64)], rs := [rt (.int .i64)] }
noncomputable def wSzCommittee_c : List (Nat × Sig) := [(47, wSzPointS_g)]
noncomputable def wSzCommittee_d : tCommittee × Int × Unit → Option ((Int × Unit) × Unit) := wSzCommittee_F.d V wSzCommittee_c
noncomputable abbrev wSzCommittee_g : Sig := wSzCommittee_F.t.sig wSzCommittee_d
theorem wSzCommittee_b (x1 : tCommittee) (x2 : Int) : wSzCommittee_d (x1, (x2, ())) = bnd (wSzPointS_d (x1.1, (x2, ()))) (fun r2 => (cnd (ilt r2.1.1 (0 : Int)) (some (((-1 : Int), ()), ())) (some ((r2.1.1, ()), ())))) := (FnD.eq V wSzCommittee_c wSzCommittee_F (x1, (x2, ()))).trans (by kernel_rfl)
theorem wSzCommittee_k : CallsOk Try.prog gls gvs 20 wSzCommittee_g := FnD.ok (F := wSzCommittee_F) (cs := wSzCommittee_c) V_ok (kC wSzPointS_k kN) Try.func20 (by decide) (by kernel_rfl)
-- laws.szKeys
noncomputable def wSzKeys_F : FnD := { f := 21, fn := Try.f21, ps := [pa TKeys, pa (.int .i64)], rs := [rt (.int .i64)] }
noncomputable def wSzKeys_c : List (Nat × Sig) := [(47, wSzPointS_g)]
noncomputable def wSzKeys_d : tKeys × Int × Unit → Option ((Int × Unit) × Unit) := wSzKeys_F.d V wSzKeys_c
noncomputable abbrev wSzKeys_g : Sig := wSzKeys_F.t.sig wSzKeys_d
theorem wSzKeys_b (x1 : tKeys) (x2 : Int) : wSzKeys_d (x1, (x2, ())) = bnd (wSzPointS_d (x1.2.2.2.2.1, (x2, ()))) (fun r2 => (cnd (ilt r2.1.1 (0 : Int)) (some (((-1 : Int), ()), ())) (some ((r2.1.1, ()), ())))) := (FnD.eq V wSzKeys_c wSzKeys_F (x1, (x2, ()))).trans (by kernel_rfl)
theorem wSzKeys_k : CallsOk Try.prog gls gvs 21 wSzKeys_g := FnD.ok (F := wSzKeys_F) (cs := wSzKeys_c) V_ok (kC wSzPointS_k kN) Try.func21 (by decide) (by kernel_rfl)
-- laws.szClient
noncomputable def wSzClient_F : FnD := { f := 5, fn := Try.f5, ps := [pa TClient, pa (.int .i64)], rs := [rt (.int .i64)] }
noncomputable def wSzClient_c : List (Nat × Sig) := [(19, wSzHead_g), (20, wSzCommittee_g), (21, wSzKeys_g)]
noncomputable def wSzClient_d : tClient × Int × Unit → Option ((Int × Unit) × Unit) := wSzClient_F.d V wSzClient_c
noncomputable abbrev wSzClient_g : Sig := wSzClient_F.t.sig wSzClient_d
theorem wSzClient_b (x1 : tClient) (x2 : Int) : wSzClient_d (x1, (x2, ())) = bnd (wSzHead_d (x1.1, (x2, ()))) (fun r2 => (cnd (ilt r2.1.1 (0 : Int)) (some (((-1 : Int), ()), ())) (bnd (wSzCommittee_d (x1.2.1, (r2.1.1, ()))) (fun r3 => (cnd (ilt r3.1.1 (0 : Int)) (some (((-1 : Int), ()), ())) (bnd (wSzCommittee_d (x1.2.2.1, (r3.1.1, ()))) (fun r4 => (cnd (ilt r4.1.1 (0 : Int)) (some (((-1 : Int), ()), ())) (bnd (wSzKeys_d (x1.2.2.2.2.1, (r4.1.1, ()))) (fun r5 => (cnd (ilt r5.1.1 (0 : Int)) (some (((-1 : Int), ()), ())) (some ((r5.1.1, ()), ()))))))))))))) := (FnD.eq V wSzClient_c wSzClient_F (x1, (x2, ()))).trans (by kernel_rfl)
theorem wSzClient_k : CallsOk Try.prog gls gvs 5 wSzClient_g := FnD.ok (F := wSzClient_F) (cs := wSzClient_c) V_ok (kC wSzHead_k (kC wSzCommittee_k (kC wSzKeys_k kN))) Try.func5 (by decide) (by kernel_rfl)
-- laws.toHead
noncomputable def wToHead_F : FnD := { f := 25, fn := Try.f25, ps := [pa THead], rs := [rt THead] }
noncomputable def wToHead_c : List (Nat × Sig) := []
noncomputable def wToHead_d : tHead × Unit → Option ((tHead × Unit) × Unit) := wToHead_F.d V wToHead_c
noncomputable abbrev wToHead_g : Sig := wToHead_F.t.sig wToHead_d
theorem wToHead_b (x1 : tHead) : wToHead_d (x1, ()) = some (((x1.1, (x1.2.1, (x1.2.2.1, (x1.2.2.2.1, ())))), ()), ()) := (FnD.eq V wToHead_c wToHead_F (x1, ())).trans (by kernel_rfl)
theorem wToHead_k : CallsOk Try.prog gls gvs 25 wToHead_g := FnD.ok (F := wToHead_F) (cs := wToHead_c) V_ok kN Try.func25 (by decide) (by kernel_rfl)
-- laws.toPoint
noncomputable def wToPoint_F : FnD := { f := 52, fn := Try.f52, ps := [pa TPoint], rs := [rt TPoint] }
noncomputable def wToPoint_c : List (Nat × Sig) := []
noncomputable def wToPoint_d : tPoint × Unit → Option ((tPoint × Unit) × Unit) := wToPoint_F.d V wToPoint_c
noncomputable abbrev wToPoint_g : Sig := wToPoint_F.t.sig wToPoint_d
theorem wToPoint_b (x1 : tPoint) : wToPoint_d (x1, ()) = some (((x1.1, (x1.2.1, (x1.2.2.1, ()))), ()), ()) := (FnD.eq V wToPoint_c wToPoint_F (x1, ())).trans (by kernel_rfl)
theorem wToPoint_k : CallsOk Try.prog gls gvs 52 wToPoint_g := FnD.ok (F := wToPoint_F) (cs := wToPoint_c) V_ok kN Try.func52 (by decide) (by kernel_rfl)
-- laws.toPointS
noncomputable def wToPointS_F : FnD := { f := 51, fn := Try.f51, ps := [pa (.sl TPoint)], rs := [⟨(.sl TPoint), (.own 0 .sh), false⟩], cuts := [(3, [.val 0 (.sl TPoint) .sh, .val 3 (.sl TPoint) (.own 0 .sh), .val 4 (.int .i64) .sh])] }
noncomputable def wToPointS_c : List (Nat × Sig) := [(52, wToPoint_g)]
noncomputable def wToPointS_d : (List tPoint) × Unit → Option (((List tPoint) × Unit) × Unit) := wToPointS_F.d V wToPointS_c
noncomputable abbrev wToPointS_g : Sig := wToPointS_F.t.sig wToPointS_d
noncomputable def wToPointS_D3 : (List tPoint) × (List tPoint) × Int × Unit → Option (((List tPoint) × Unit) × Unit) := wToPointS_F.D V wToPointS_c 3
theorem wToPointS_b (x1 : (List tPoint)) : wToPointS_d (x1, ()) = cnd (both (inb2 (0 : Int) (len x1) (len x1)) (fits (len x1) 3)) (wToPointS_D3 (x1, ((rep (len x1) zPoint), ((0 : Int), ())))) none := (FnD.eq V wToPointS_c wToPointS_F (x1, ())).trans (by kernel_rfl)
theorem wToPointS_q3 (x1 : (List tPoint)) (x2 : (List tPoint)) (x3 : Int) : wToPointS_D3 (x1, (x2, (x3, ()))) = cnd (ilt x3 (len x1)) (cnd (inb x3 (len x1)) (bnd (wToPoint_d ((rd zPoint x1 x3), ())) (fun r3 => (cnd (inb x3 (len x2)) (wToPointS_D3 (x1, ((upd x2 x3 r3.1.1), ((iadd .i64 x3 (1 : Int)), ())))) none))) none) (some ((x2, ()), ())) := (FnD.eqC V wToPointS_c wToPointS_F 3 (x1, (x2, (x3, ())))).trans (by kernel_rfl)
theorem wToPointS_k : CallsOk Try.prog gls gvs 51 wToPointS_g := FnD.ok (F := wToPointS_F) (cs := wToPointS_c) V_ok (kC wToPoint_k kN) Try.func51 (by decide) (by kernel_rfl)
-- laws.toCommittee
noncomputable def wToCommittee_F : FnD := { f := 26, fn := Try.f26, ps := [pa TCommittee], rs := [⟨TCommittee, (.pr (.own 0 .sh) .sh), false⟩] }
noncomputable def wToCommittee_c : List (Nat × Sig) := [(51, wToPointS_g)]
noncomputable def wToCommittee_d : tCommittee × Unit → Option ((tCommittee × Unit) × Unit) := wToCommittee_F.d V wToCommittee_c
noncomputable abbrev wToCommittee_g : Sig := wToCommittee_F.t.sig wToCommittee_d
theorem wToCommittee_b (x1 : tCommittee) : wToCommittee_d (x1, ()) = bnd (wToPointS_d (x1.1, ())) (fun r1 => (some (((r1.1.1, ()), ()), ()))) := (FnD.eq V wToCommittee_c wToCommittee_F (x1, ())).trans (by kernel_rfl)
theorem wToCommittee_k : CallsOk Try.prog gls gvs 26 wToCommittee_g := FnD.ok (F := wToCommittee_F) (cs := wToCommittee_c) V_ok (kC wToPointS_k kN) Try.func26 (by decide) (by kernel_rfl)
-- laws.toKeys
noncomputable def wToKeys_F : FnD := { f := 27, fn := Try.f27, ps := [pa TKeys], rs := [⟨TKeys, (.pr .sh (.pr .sh (.pr .sh (.pr .sh (.pr (.own 0 .sh) .sh))))), false⟩] }
noncomputable def wToKeys_c : List (Nat × Sig) := [(52, wToPoint_g), (51, wToPointS_g)]
noncomputable def wToKeys_d : tKeys × Unit → Option ((tKeys × Unit) × Unit) := wToKeys_F.d V wToKeys_c
noncomputable abbrev wToKeys_g : Sig := wToKeys_F.t.sig wToKeys_d
theorem wToKeys_b (x1 : tKeys) : wToKeys_d (x1, ()) = bnd (wToPoint_d (x1.1, ())) (fun r1 => (bnd (wToPoint_d (x1.2.1, ())) (fun r2 => (bnd (wToPoint_d (x1.2.2.1, ())) (fun r3 => (bnd (wToPoint_d (x1.2.2.2.1, ())) (fun r4 => (bnd (wToPointS_d (x1.2.2.2.2.1, ())) (fun r5 => (some (((r1.1.1, (r2.1.1, (r3.1.1, (r4.1.1, (r5.1.1, ()))))), ()), ()))))))))))) := (FnD.eq V wToKeys_c wToKeys_F (x1, ())).trans (by kernel_rfl)
theorem wToKeys_k : CallsOk Try.prog gls gvs 27 wToKeys_g := FnD.ok (F := wToKeys_F) (cs := wToKeys_c) V_ok (kC wToPoint_k (kC wToPointS_k kN)) Try.func27 (by decide) (by kernel_rfl)
-- laws.toClient
noncomputable def wToClient_F : FnD := { f := 7, fn := Try.f7, ps := [pa TClient], rs := [⟨TClient, (.pr .sh (.pr (.pr (.own 0 .sh) .sh) (.pr (.pr (.own 0 .sh) .sh) (.pr .sh (.pr (.pr .sh (.pr .sh (.pr .sh (.pr .sh (.pr (.own 0 .sh) .sh))))) .sh))))), false⟩] }
noncomputable def wToClient_c : List (Nat × Sig) := [(25, wToHead_g), (26, wToCommittee_g), (27, wToKeys_g)]
noncomputable def wToClient_d : tClient × Unit → Option ((tClient × Unit) × Unit) := wToClient_F.d V wToClient_c
noncomputable abbrev wToClient_g : Sig := wToClient_F.t.sig wToClient_d
theorem wToClient_b (x1 : tClient) : wToClient_d (x1, ()) = bnd (wToHead_d (x1.1, ())) (fun r1 => (bnd (wToCommittee_d (x1.2.1, ())) (fun r2 => (bnd (wToCommittee_d (x1.2.2.1, ())) (fun r3 => (bnd (wToKeys_d (x1.2.2.2.2.1, ())) (fun r4 => (some (((r1.1.1, (r2.1.1, (r3.1.1, (x1.2.2.2.1, (r4.1.1, ()))))), ()), ()))))))))) := (FnD.eq V wToClient_c wToClient_F (x1, ())).trans (by kernel_rfl)
theorem wToClient_k : CallsOk Try.prog gls gvs 7 wToClient_g := FnD.ok (F := wToClient_F) (cs := wToClient_c) V_ok (kC wToHead_k (kC wToCommittee_k (kC wToKeys_k kN))) Try.func7 (by decide) (by kernel_rfl)
-- spec.l01In
noncomputable def sL01In_F : FnD := { f := 23, fn := Try.f23, ps := [pa (.int .i64), pa (.int .i64), pa (.int .i64)], rs := [rt .bool] }
noncomputable def sL01In_c : List (Nat × Sig) := []
noncomputable def sL01In_d : Int × Int × Int × Unit → Option ((Bool × Unit) × Unit) := sL01In_F.d V sL01In_c
noncomputable abbrev sL01In_g : Sig := sL01In_F.t.sig sL01In_d
theorem sL01In_b (x1 : Int) (x2 : Int) (x3 : Int) : sL01In_d (x1, (x2, (x3, ()))) = cnd (ige x1 x2) (some (((ile x1 x3), ()), ())) (some ((false, ()), ())) := (FnD.eq V sL01In_c sL01In_F (x1, (x2, (x3, ())))).trans (by kernel_rfl)
theorem sL01In_k : CallsOk Try.prog gls gvs 23 sL01In_g := FnD.ok (F := sL01In_F) (cs := sL01In_c) V_ok kN Try.func23 (by decide) (by kernel_rfl)
-- spec.HeadOk
noncomputable def sHeadOk_F : FnD := { f := 48, fn := Try.f48, ps := [pa THead], rs := [rt .bool] }
noncomputable def sHeadOk_c : List (Nat × Sig) := [(23, sL01In_g)]
noncomputable def sHeadOk_d : tHead × Unit → Option ((Bool × Unit) × Unit) := sHeadOk_F.d V sHeadOk_c
noncomputable abbrev sHeadOk_g : Sig := sHeadOk_F.t.sig sHeadOk_d
theorem sHeadOk_b (x1 : tHead) : sHeadOk_d (x1, ()) = bnd (sL01In_d (x1.1, ((0 : Int), ((10000 : Int), ())))) (fun r1 => (cnd r1.1.1 (cnd (ieq (ssz x1.2.1) (32 : Int)) (cnd (ieq (ssz x1.2.2.1) (32 : Int)) (some (((ieq (ssz x1.2.2.2.1) (32 : Int)), ()), ())) (some ((false, ()), ()))) (some ((false, ()), ()))) (some ((false, ()), ())))) := (FnD.eq V sHeadOk_c sHeadOk_F (x1, ())).trans (by kernel_rfl)
theorem sHeadOk_k : CallsOk Try.prog gls gvs 48 sHeadOk_g := FnD.ok (F := sHeadOk_F) (cs := sHeadOk_c) V_ok (kC sL01In_k kN) Try.func48 (by decide) (by kernel_rfl)
-- spec.FpOk
noncomputable def sFpOk_F : FnD := { f := 109, fn := Try.f109, ps := [pa (.int .i64)], rs := [rt .bool] }
noncomputable def sFpOk_c : List (Nat × Sig) := [(23, sL01In_g)]
noncomputable def sFpOk_d : Int × Unit → Option ((Bool × Unit) × Unit) := sFpOk_F.d V sFpOk_c
noncomputable abbrev sFpOk_g : Sig := sFpOk_F.t.sig sFpOk_d
theorem sFpOk_b (x1 : Int) : sFpOk_d (x1, ()) = bnd (sL01In_d (x1, ((0 : Int), ((12106 : Int), ())))) (fun r1 => (some ((r1.1.1, ()), ()))) := (FnD.eq V sFpOk_c sFpOk_F (x1, ())).trans (by kernel_rfl)
theorem sFpOk_k : CallsOk Try.prog gls gvs 109 sFpOk_g := FnD.ok (F := sFpOk_F) (cs := sFpOk_c) V_ok (kC sL01In_k kN) Try.func109 (by decide) (by kernel_rfl)
-- spec.FpOf
noncomputable def sFpOf_F : FnD := { f := 124, fn := Try.f124, ps := [pa (.int .i64)], rs := [rt (.int .i64)] }
noncomputable def sFpOf_c : List (Nat × Sig) := []
noncomputable def sFpOf_d : Int × Unit → Option ((Int × Unit) × Unit) := sFpOf_F.d V sFpOf_c
noncomputable abbrev sFpOf_g : Sig := sFpOf_F.t.sig sFpOf_d
theorem sFpOf_b (x1 : Int) : sFpOf_d (x1, ()) = cnd (nz (12107 : Int)) (cnd (ilt (irem x1 (12107 : Int)) (0 : Int)) (some (((iadd .i64 (irem x1 (12107 : Int)) (12107 : Int)), ()), ())) (some (((irem x1 (12107 : Int)), ()), ()))) none := (FnD.eq V sFpOf_c sFpOf_F (x1, ())).trans (by kernel_rfl)
theorem sFpOf_k : CallsOk Try.prog gls gvs 124 sFpOf_g := FnD.ok (F := sFpOf_F) (cs := sFpOf_c) V_ok kN Try.func124 (by decide) (by kernel_rfl)
-- spec.FpMul
noncomputable def sFpMul_F : FnD := { f := 110, fn := Try.f110, ps := [pa (.int .i64), pa (.int .i64)], rs := [rt (.int .i64)] }
noncomputable def sFpMul_c : List (Nat × Sig) := [(124, sFpOf_g)]
noncomputable def sFpMul_d : Int × Int × Unit → Option ((Int × Unit) × Unit) := sFpMul_F.d V sFpMul_c
noncomputable abbrev sFpMul_g : Sig := sFpMul_F.t.sig sFpMul_d
theorem sFpMul_b (x1 : Int) (x2 : Int) : sFpMul_d (x1, (x2, ())) = bnd (sFpOf_d (x1, ())) (fun r2 => (bnd (sFpOf_d (x2, ())) (fun r3 => (bnd (sFpOf_d ((imul .i64 r2.1.1 r3.1.1), ())) (fun r4 => (some ((r4.1.1, ()), ()))))))) := (FnD.eq V sFpMul_c sFpMul_F (x1, (x2, ()))).trans (by kernel_rfl)
theorem sFpMul_k : CallsOk Try.prog gls gvs 110 sFpMul_g := FnD.ok (F := sFpMul_F) (cs := sFpMul_c) V_ok (kC sFpOf_k kN) Try.func110 (by decide) (by kernel_rfl)
-- spec.FpAdd
noncomputable def sFpAdd_F : FnD := { f := 125, fn := Try.f125, ps := [pa (.int .i64), pa (.int .i64)], rs := [rt (.int .i64)] }
noncomputable def sFpAdd_c : List (Nat × Sig) := [(124, sFpOf_g)]
noncomputable def sFpAdd_d : Int × Int × Unit → Option ((Int × Unit) × Unit) := sFpAdd_F.d V sFpAdd_c
noncomputable abbrev sFpAdd_g : Sig := sFpAdd_F.t.sig sFpAdd_d
theorem sFpAdd_b (x1 : Int) (x2 : Int) : sFpAdd_d (x1, (x2, ())) = bnd (sFpOf_d (x1, ())) (fun r2 => (bnd (sFpOf_d (x2, ())) (fun r3 => (bnd (sFpOf_d ((iadd .i64 r2.1.1 r3.1.1), ())) (fun r4 => (some ((r4.1.1, ()), ()))))))) := (FnD.eq V sFpAdd_c sFpAdd_F (x1, (x2, ()))).trans (by kernel_rfl)
theorem sFpAdd_k : CallsOk Try.prog gls gvs 125 sFpAdd_g := FnD.ok (F := sFpAdd_F) (cs := sFpAdd_c) V_ok (kC sFpOf_k kN) Try.func125 (by decide) (by kernel_rfl)
-- spec.l07Right
noncomputable def sL07Right_F : FnD := { f := 111, fn := Try.f111, ps := [pa (.int .i64)], rs := [rt (.int .i64)] }
noncomputable def sL07Right_c : List (Nat × Sig) := [(110, sFpMul_g), (125, sFpAdd_g)]
noncomputable def sL07Right_d : Int × Unit → Option ((Int × Unit) × Unit) := sL07Right_F.d V sL07Right_c
noncomputable abbrev sL07Right_g : Sig := sL07Right_F.t.sig sL07Right_d
theorem sL07Right_b (x1 : Int) : sL07Right_d (x1, ()) = bnd (sFpMul_d (x1, (x1, ()))) (fun r1 => (bnd (sFpMul_d (r1.1.1, (x1, ()))) (fun r2 => (bnd (sFpAdd_d (r2.1.1, (x1, ()))) (fun r3 => (some ((r3.1.1, ()), ()))))))) := (FnD.eq V sL07Right_c sL07Right_F (x1, ())).trans (by kernel_rfl)
theorem sL07Right_k : CallsOk Try.prog gls gvs 111 sL07Right_g := FnD.ok (F := sL07Right_F) (cs := sL07Right_c) V_ok (kC sFpMul_k (kC sFpAdd_k kN)) Try.func111 (by decide) (by kernel_rfl)
-- spec.PointOk
noncomputable def sPointOk_F : FnD := { f := 93, fn := Try.f93, ps := [pa TPoint], rs := [rt .bool] }
noncomputable def sPointOk_c : List (Nat × Sig) := [(109, sFpOk_g), (110, sFpMul_g), (111, sL07Right_g)]
noncomputable def sPointOk_d : tPoint × Unit → Option ((Bool × Unit) × Unit) := sPointOk_F.d V sPointOk_c
noncomputable abbrev sPointOk_g : Sig := sPointOk_F.t.sig sPointOk_d
theorem sPointOk_b (x1 : tPoint) : sPointOk_d (x1, ()) = cnd x1.2.2.1 (cnd (ieq x1.1 (0 : Int)) (some (((ieq x1.2.1 (0 : Int)), ()), ())) (some ((false, ()), ()))) (bnd (sFpOk_d (x1.1, ())) (fun r1 => (cnd r1.1.1 (bnd (sFpOk_d (x1.2.1, ())) (fun r2 => (cnd r2.1.1 (bnd (sFpMul_d (x1.2.1, (x1.2.1, ()))) (fun r3 => (bnd (sL07Right_d (x1.1, ())) (fun r4 => (some (((ieq r3.1.1 r4.1.1), ()), ())))))) (some ((false, ()), ()))))) (some ((false, ()), ()))))) := (FnD.eq V sPointOk_c sPointOk_F (x1, ())).trans (by kernel_rfl)
theorem sPointOk_k : CallsOk Try.prog gls gvs 93 sPointOk_g := FnD.ok (F := sPointOk_F) (cs := sPointOk_c) V_ok (kC sFpOk_k (kC sFpMul_k (kC sL07Right_k kN))) Try.func93 (by decide) (by kernel_rfl)
-- spec.l07Zero
noncomputable def sL07Zero_F : FnD := { f := 112, fn := Try.f112, ps := [], rs := [rt TPoint] }
noncomputable def sL07Zero_c : List (Nat × Sig) := []
noncomputable def sL07Zero_d : Unit → Option ((tPoint × Unit) × Unit) := sL07Zero_F.d V sL07Zero_c
noncomputable abbrev sL07Zero_g : Sig := sL07Zero_F.t.sig sL07Zero_d
theorem sL07Zero_b : sL07Zero_d () = some ((((0 : Int), ((0 : Int), (true, ()))), ()), ()) := (FnD.eq V sL07Zero_c sL07Zero_F ()).trans (by kernel_rfl)
theorem sL07Zero_k : CallsOk Try.prog gls gvs 112 sL07Zero_g := FnD.ok (F := sL07Zero_F) (cs := sL07Zero_c) V_ok kN Try.func112 (by decide) (by kernel_rfl)
-- spec.FpSub
noncomputable def sFpSub_F : FnD := { f := 126, fn := Try.f126, ps := [pa (.int .i64), pa (.int .i64)], rs := [rt (.int .i64)] }
noncomputable def sFpSub_c : List (Nat × Sig) := [(124, sFpOf_g)]
noncomputable def sFpSub_d : Int × Int × Unit → Option ((Int × Unit) × Unit) := sFpSub_F.d V sFpSub_c
noncomputable abbrev sFpSub_g : Sig := sFpSub_F.t.sig sFpSub_d
theorem sFpSub_b (x1 : Int) (x2 : Int) : sFpSub_d (x1, (x2, ())) = bnd (sFpOf_d (x1, ())) (fun r2 => (bnd (sFpOf_d (x2, ())) (fun r3 => (bnd (sFpOf_d ((isub .i64 r2.1.1 r3.1.1), ())) (fun r4 => (some ((r4.1.1, ()), ()))))))) := (FnD.eq V sFpSub_c sFpSub_F (x1, (x2, ()))).trans (by kernel_rfl)
theorem sFpSub_k : CallsOk Try.prog gls gvs 126 sFpSub_g := FnD.ok (F := sFpSub_F) (cs := sFpSub_c) V_ok (kC sFpOf_k kN) Try.func126 (by decide) (by kernel_rfl)
-- spec.PointNeg
noncomputable def sPointNeg_F : FnD := { f := 113, fn := Try.f113, ps := [pa TPoint], rs := [rt TPoint] }
noncomputable def sPointNeg_c : List (Nat × Sig) := [(112, sL07Zero_g), (126, sFpSub_g)]
noncomputable def sPointNeg_d : tPoint × Unit → Option ((tPoint × Unit) × Unit) := sPointNeg_F.d V sPointNeg_c
noncomputable abbrev sPointNeg_g : Sig := sPointNeg_F.t.sig sPointNeg_d
theorem sPointNeg_b (x1 : tPoint) : sPointNeg_d (x1, ()) = cnd x1.2.2.1 (bnd (sL07Zero_d ()) (fun r1 => (some ((r1.1.1, ()), ())))) (bnd (sFpSub_d ((0 : Int), (x1.2.1, ()))) (fun r1 => (some (((x1.1, (r1.1.1, (false, ()))), ()), ())))) := (FnD.eq V sPointNeg_c sPointNeg_F (x1, ())).trans (by kernel_rfl)
theorem sPointNeg_k : CallsOk Try.prog gls gvs 113 sPointNeg_g := FnD.ok (F := sPointNeg_F) (cs := sPointNeg_c) V_ok (kC sL07Zero_k (kC sFpSub_k kN)) Try.func113 (by decide) (by kernel_rfl)
-- spec.FpPow
noncomputable def sFpPow_F : FnD := { f := 132, fn := Try.f132, ps := [pa (.int .i64), pa (.int .i64)], rs := [rt (.int .i64)], joins := [8], cuts := [(8, [.val 1 (.int .i64) .sh, .val 5 (.int .i64) .sh, .val 6 (.int .i64) .sh]), (5, [.val 1 (.int .i64) .sh, .val 5 (.int .i64) .sh, .val 6 (.int .i64) .sh])] }
noncomputable def sFpPow_c : List (Nat × Sig) := [(124, sFpOf_g), (110, sFpMul_g)]
noncomputable def sFpPow_d : Int × Int × Unit → Option ((Int × Unit) × Unit) := sFpPow_F.d V sFpPow_c
noncomputable abbrev sFpPow_g : Sig := sFpPow_F.t.sig sFpPow_d
noncomputable def sFpPow_D8 : Int × Int × Int × Unit → Option ((Int × Unit) × Unit) := sFpPow_F.D V sFpPow_c 8
noncomputable def sFpPow_D5 : Int × Int × Int × Unit → Option ((Int × Unit) × Unit) := sFpPow_F.D V sFpPow_c 5
theorem sFpPow_b (x1 : Int) (x2 : Int) : sFpPow_d (x1, (x2, ())) = cnd (ilt x2 (0 : Int)) (some (((0 : Int), ()), ())) (bnd (sFpOf_d (x1, ())) (fun r2 => (sFpPow_D5 (x2, ((1 : Int), (r2.1.1, ())))))) := (FnD.eq V sFpPow_c sFpPow_F (x1, (x2, ()))).trans (by kernel_rfl)
theorem sFpPow_q8 (x1 : Int) (x2 : Int) (x3 : Int) : sFpPow_D8 (x1, (x2, (x3, ()))) = bnd (sFpMul_d (x3, (x3, ()))) (fun r3 => (cnd (nz (2 : Int)) (sFpPow_D5 ((iquo .i64 x1 (2 : Int)), (x2, (r3.1.1, ())))) none)) := (FnD.eqC V sFpPow_c sFpPow_F 8 (x1, (x2, (x3, ())))).trans (by kernel_rfl)
theorem sFpPow_q5 (x1 : Int) (x2 : Int) (x3 : Int) : sFpPow_D5 (x1, (x2, (x3, ()))) = cnd (igt x1 (0 : Int)) (cnd (nz (2 : Int)) (cnd (ieq (irem x1 (2 : Int)) (1 : Int)) (bnd (sFpMul_d (x2, (x3, ()))) (fun r3 => (sFpPow_D8 (x1, (r3.1.1, (x3, ())))))) (sFpPow_D8 (x1, (x2, (x3, ()))))) none) (some ((x2, ()), ())) := (FnD.eqC V sFpPow_c sFpPow_F 5 (x1, (x2, (x3, ())))).trans (by kernel_rfl)
theorem sFpPow_k : CallsOk Try.prog gls gvs 132 sFpPow_g := FnD.ok (F := sFpPow_F) (cs := sFpPow_c) V_ok (kC sFpOf_k (kC sFpMul_k kN)) Try.func132 (by decide) (by kernel_rfl)
-- spec.FpInv
noncomputable def sFpInv_F : FnD := { f := 131, fn := Try.f131, ps := [pa (.int .i64)], rs := [rt (.int .i64)] }
noncomputable def sFpInv_c : List (Nat × Sig) := [(132, sFpPow_g)]
noncomputable def sFpInv_d : Int × Unit → Option ((Int × Unit) × Unit) := sFpInv_F.d V sFpInv_c
noncomputable abbrev sFpInv_g : Sig := sFpInv_F.t.sig sFpInv_d
theorem sFpInv_b (x1 : Int) : sFpInv_d (x1, ()) = bnd (sFpPow_d (x1, ((12105 : Int), ()))) (fun r1 => (some ((r1.1.1, ()), ()))) := (FnD.eq V sFpInv_c sFpInv_F (x1, ())).trans (by kernel_rfl)
theorem sFpInv_k : CallsOk Try.prog gls gvs 131 sFpInv_g := FnD.ok (F := sFpInv_F) (cs := sFpInv_c) V_ok (kC sFpPow_k kN) Try.func131 (by decide) (by kernel_rfl)
-- spec.l07Slope
noncomputable def sL07Slope_F : FnD := { f := 127, fn := Try.f127, ps := [pa TPoint, pa TPoint], rs := [rt (.int .i64), rt .bool] }
noncomputable def sL07Slope_c : List (Nat × Sig) := [(126, sFpSub_g), (131, sFpInv_g), (110, sFpMul_g), (125, sFpAdd_g)]
noncomputable def sL07Slope_d : tPoint × tPoint × Unit → Option ((Int × Bool × Unit) × Unit) := sL07Slope_F.d V sL07Slope_c
noncomputable abbrev sL07Slope_g : Sig := sL07Slope_F.t.sig sL07Slope_d
theorem sL07Slope_b (x1 : tPoint) (x2 : tPoint) : sL07Slope_d (x1, (x2, ())) = cnd (ine x1.1 x2.1) (bnd (sFpSub_d (x2.2.1, (x1.2.1, ()))) (fun r2 => (bnd (sFpSub_d (x2.1, (x1.1, ()))) (fun r3 => (bnd (sFpInv_d (r3.1.1, ())) (fun r4 => (bnd (sFpMul_d (r2.1.1, (r4.1.1, ()))) (fun r5 => (some ((r5.1.1, (true, ())), ())))))))))) (bnd (sFpAdd_d (x1.2.1, (x2.2.1, ()))) (fun r2 => (cnd (ieq r2.1.1 (0 : Int)) (some (((0 : Int), (false, ())), ())) (bnd (sFpMul_d (x1.1, (x1.1, ()))) (fun r3 => (bnd (sFpMul_d ((3 : Int), (r3.1.1, ()))) (fun r4 => (bnd (sFpAdd_d (r4.1.1, ((1 : Int), ()))) (fun r5 => (bnd (sFpMul_d ((2 : Int), (x1.2.1, ()))) (fun r6 => (bnd (sFpInv_d (r6.1.1, ())) (fun r7 => (bnd (sFpMul_d (r5.1.1, (r7.1.1, ()))) (fun r8 => (some ((r8.1.1, (true, ())), ()))))))))))))))))) := (FnD.eq V sL07Slope_c sL07Slope_F (x1, (x2, ()))).trans (by kernel_rfl)
theorem sL07Slope_k : CallsOk Try.prog gls gvs 127 sL07Slope_g := FnD.ok (F := sL07Slope_F) (cs := sL07Slope_c) V_ok (kC sFpSub_k (kC sFpInv_k (kC sFpMul_k (kC sFpAdd_k kN)))) Try.func127 (by decide) (by kernel_rfl)
-- spec.l07Add
noncomputable def sL07Add_F : FnD := { f := 114, fn := Try.f114, ps := [pa TPoint, pa TPoint], rs := [rt TPoint] }
noncomputable def sL07Add_c : List (Nat × Sig) := [(127, sL07Slope_g), (112, sL07Zero_g), (110, sFpMul_g), (126, sFpSub_g)]
noncomputable def sL07Add_d : tPoint × tPoint × Unit → Option ((tPoint × Unit) × Unit) := sL07Add_F.d V sL07Add_c
noncomputable abbrev sL07Add_g : Sig := sL07Add_F.t.sig sL07Add_d
theorem sL07Add_b (x1 : tPoint) (x2 : tPoint) : sL07Add_d (x1, (x2, ())) = cnd x1.2.2.1 (some ((x2, ()), ())) (cnd x2.2.2.1 (some ((x1, ()), ())) (bnd (sL07Slope_d (x1, (x2, ()))) (fun r2 => (cnd (bnot r2.1.2.1) (bnd (sL07Zero_d ()) (fun r3 => (some ((r3.1.1, ()), ())))) (bnd (sFpMul_d (r2.1.1, (r2.1.1, ()))) (fun r3 => (bnd (sFpSub_d (r3.1.1, (x1.1, ()))) (fun r4 => (bnd (sFpSub_d (r4.1.1, (x2.1, ()))) (fun r5 => (bnd (sFpSub_d (x1.1, (r5.1.1, ()))) (fun r6 => (bnd (sFpMul_d (r2.1.1, (r6.1.1, ()))) (fun r7 => (bnd (sFpSub_d (r7.1.1, (x1.2.1, ()))) (fun r8 => (some (((r5.1.1, (r8.1.1, (false, ()))), ()), ())))))))))))))))))) := (FnD.eq V sL07Add_c sL07Add_F (x1, (x2, ()))).trans (by kernel_rfl)
theorem sL07Add_k : CallsOk Try.prog gls gvs 114 sL07Add_g := FnD.ok (F := sL07Add_F) (cs := sL07Add_c) V_ok (kC sL07Slope_k (kC sL07Zero_k (kC sFpMul_k (kC sFpSub_k kN)))) Try.func114 (by decide) (by kernel_rfl)
-- spec.PointTimes
noncomputable def sPointTimes_F : FnD := { f := 94, fn := Try.f94, ps := [pa (.int .i64), pa TPoint], rs := [rt TPoint], joins := [8, 12], cuts := [(8, [.val 5 (.int .i64) .sh, .box 4 TPoint .sh, .box 6 TPoint .sh, .ptr 4 4 0, .ptr 6 6 0]), (12, [.val 5 (.int .i64) .sh, .box 4 TPoint .sh, .box 6 TPoint .sh, .box 7 TPoint .sh, .ptr 4 4 0, .ptr 6 6 0, .ptr 7 7 0]), (9, [.val 5 (.int .i64) .sh, .box 4 TPoint .sh, .box 6 TPoint .sh, .box 7 TPoint .sh, .ptr 4 4 0, .ptr 6 6 0, .ptr 7 7 0])] }
noncomputable def sPointTimes_c : List (Nat × Sig) := [(93, sPointOk_g), (112, sL07Zero_g), (113, sPointNeg_g), (114, sL07Add_g)]
noncomputable def sPointTimes_d : Int × tPoint × Unit → Option ((tPoint × Unit) × Unit) := sPointTimes_F.d V sPointTimes_c
noncomputable abbrev sPointTimes_g : Sig := sPointTimes_F.t.sig sPointTimes_d
noncomputable def sPointTimes_D8 : Int × tPoint × tPoint × Unit → Option ((tPoint × Unit) × Unit) := sPointTimes_F.D V sPointTimes_c 8
noncomputable def sPointTimes_D12 : Int × tPoint × tPoint × tPoint × Unit → Option ((tPoint × Unit) × Unit) := sPointTimes_F.D V sPointTimes_c 12
noncomputable def sPointTimes_D9 : Int × tPoint × tPoint × tPoint × Unit → Option ((tPoint × Unit) × Unit) := sPointTimes_F.D V sPointTimes_c 9
theorem sPointTimes_b (x1 : Int) (x2 : tPoint) : sPointTimes_d (x1, (x2, ())) = bnd (sPointOk_d (x2, ())) (fun r2 => (cnd (bnot r2.1.1) (bnd (sL07Zero_d ()) (fun r3 => (some ((r3.1.1, ()), ())))) (cnd (nz (12108 : Int)) (cnd (ilt (irem x1 (12108 : Int)) (0 : Int)) (bnd (sPointNeg_d (x2, ())) (fun r3 => (sPointTimes_D8 ((ineg .i64 (irem x1 (12108 : Int))), (zPoint, (r3.1.1, ())))))) (sPointTimes_D8 ((irem x1 (12108 : Int)), (zPoint, (x2, ()))))) none))) := (FnD.eq V sPointTimes_c sPointTimes_F (x1, (x2, ()))).trans (by kernel_rfl)
theorem sPointTimes_q8 (x1 : Int) (x2 : tPoint) (x3 : tPoint) : sPointTimes_D8 (x1, (x2, (x3, ()))) = bnd (sL07Zero_d ()) (fun r3 => (sPointTimes_D9 (x1, (x2, (x3, (r3.1.1, ())))))) := (FnD.eqC V sPointTimes_c sPointTimes_F 8 (x1, (x2, (x3, ())))).trans (by kernel_rfl)
theorem sPointTimes_q12 (x1 : Int) (x2 : tPoint) (x3 : tPoint) (x4 : tPoint) : sPointTimes_D12 (x1, (x2, (x3, (x4, ())))) = bnd (sL07Add_d (x3, (x3, ()))) (fun r4 => (cnd (nz (2 : Int)) (sPointTimes_D9 ((iquo .i64 x1 (2 : Int)), (x2, (r4.1.1, (x4, ()))))) none)) := (FnD.eqC V sPointTimes_c sPointTimes_F 12 (x1, (x2, (x3, (x4, ()))))).trans (by kernel_rfl)
theorem sPointTimes_q9 (x1 : Int) (x2 : tPoint) (x3 : tPoint) (x4 : tPoint) : sPointTimes_D9 (x1, (x2, (x3, (x4, ())))) = cnd (igt x1 (0 : Int)) (cnd (nz (2 : Int)) (cnd (ieq (irem x1 (2 : Int)) (1 : Int)) (bnd (sL07Add_d (x4, (x3, ()))) (fun r4 => (sPointTimes_D12 (x1, (x2, (x3, (r4.1.1, ()))))))) (sPointTimes_D12 (x1, (x2, (x3, (x4, ())))))) none) (some ((x4, ()), ())) := (FnD.eqC V sPointTimes_c sPointTimes_F 9 (x1, (x2, (x3, (x4, ()))))).trans (by kernel_rfl)
theorem sPointTimes_k : CallsOk Try.prog gls gvs 94 sPointTimes_g := FnD.ok (F := sPointTimes_F) (cs := sPointTimes_c) V_ok (kC sPointOk_k (kC sL07Zero_k (kC sPointNeg_k (kC sL07Add_k kN)))) Try.func94 (by decide) (by kernel_rfl)
-- spec.InGroup
noncomputable def sInGroup_F : FnD := { f := 71, fn := Try.f71, ps := [pa TPoint], rs := [rt .bool] }
noncomputable def sInGroup_c : List (Nat × Sig) := [(93, sPointOk_g), (94, sPointTimes_g)]
noncomputable def sInGroup_d : tPoint × Unit → Option ((Bool × Unit) × Unit) := sInGroup_F.d V sInGroup_c
noncomputable abbrev sInGroup_g : Sig := sInGroup_F.t.sig sInGroup_d
theorem sInGroup_b (x1 : tPoint) : sInGroup_d (x1, ()) = bnd (sPointOk_d (x1, ())) (fun r1 => (cnd r1.1.1 (bnd (sPointTimes_d ((1009 : Int), (x1, ()))) (fun r2 => (some ((r2.1.1.2.2.1, ()), ())))) (some ((false, ()), ())))) := (FnD.eq V sInGroup_c sInGroup_F (x1, ())).trans (by kernel_rfl)
theorem sInGroup_k : CallsOk Try.prog gls gvs 71 sInGroup_g := FnD.ok (F := sInGroup_F) (cs := sInGroup_c) V_ok (kC sPointOk_k (kC sPointTimes_k kN)) Try.func71 (by decide) (by kernel_rfl)
-- spec.CommitteeOk
noncomputable def sCommitteeOk_F : FnD := { f := 49, fn := Try.f49, ps := [pa TCommittee], rs := [rt .bool], cuts := [(2, [.val 3 (.int .i64) .sh, .box 1 TCommittee .sh, .ptr 1 1 0])] }
noncomputable def sCommitteeOk_c : List (Nat × Sig) := [(71, sInGroup_g)]
noncomputable def sCommitteeOk_d : tCommittee × Unit → Option ((Bool × Unit) × Unit) := sCommitteeOk_F.d V sCommitteeOk_c
noncomputable abbrev sCommitteeOk_g : Sig := sCommitteeOk_F.t.sig sCommitteeOk_d
noncomputable def sCommitteeOk_D2 : Int × tCommittee × Unit → Option ((Bool × Unit) × Unit) := sCommitteeOk_F.D V sCommitteeOk_c 2
theorem sCommitteeOk_b (x1 : tCommittee) : sCommitteeOk_d (x1, ()) = sCommitteeOk_D2 ((0 : Int), (x1, ())) := (FnD.eq V sCommitteeOk_c sCommitteeOk_F (x1, ())).trans (by kernel_rfl)
theorem sCommitteeOk_q2 (x1 : Int) (x2 : tCommittee) : sCommitteeOk_D2 (x1, (x2, ())) = cnd (ilt x1 (len x2.1)) (cnd (inb x1 (len x2.1)) (bnd (sInGroup_d ((rd zPoint x2.1 x1), ())) (fun r2 => (cnd (bnot r2.1.1) (some ((false, ()), ())) (cnd (inb x1 (len x2.1)) (cnd (rd zPoint x2.1 x1).2.2.1 (some ((false, ()), ())) (sCommitteeOk_D2 ((iadd .i64 x1 (1 : Int)), (x2, ())))) none)))) none) (some (((ieq (len x2.1) (8 : Int)), ()), ())) := (FnD.eqC V sCommitteeOk_c sCommitteeOk_F 2 (x1, (x2, ()))).trans (by kernel_rfl)
theorem sCommitteeOk_k : CallsOk Try.prog gls gvs 49 sCommitteeOk_g := FnD.ok (F := sCommitteeOk_F) (cs := sCommitteeOk_c) V_ok (kC sInGroup_k kN) Try.func49 (by decide) (by kernel_rfl)
-- spec.ClientOk
noncomputable def sClientOk_F : FnD := { f := 22, fn := Try.f22, ps := [pa TClient], rs := [rt .bool] }
noncomputable def sClientOk_c : List (Nat × Sig) := [(48, sHeadOk_g), (49, sCommitteeOk_g)]
noncomputable def sClientOk_d : tClient × Unit → Option ((Bool × Unit) × Unit) := sClientOk_F.d V sClientOk_c
noncomputable abbrev sClientOk_g : Sig := sClientOk_F.t.sig sClientOk_d
theorem sClientOk_b (x1 : tClient) : sClientOk_d (x1, ()) = bnd (sHeadOk_d (x1.1, ())) (fun r1 => (cnd (bnot r1.1.1) (some ((false, ()), ())) (bnd (sCommitteeOk_d (x1.2.1, ())) (fun r2 => (cnd (bnot r2.1.1) (some ((false, ()), ())) (cnd x1.2.2.2.1 (bnd (sCommitteeOk_d (x1.2.2.1, ())) (fun r3 => (some ((r3.1.1, ()), ())))) (some (((ieq (len x1.2.2.1.1) (0 : Int)), ()), ())))))))) := (FnD.eq V sClientOk_c sClientOk_F (x1, ())).trans (by kernel_rfl)
theorem sClientOk_k : CallsOk Try.prog gls gvs 22 sClientOk_g := FnD.ok (F := sClientOk_F) (cs := sClientOk_c) V_ok (kC sHeadOk_k (kC sCommitteeOk_k kN)) Try.func22 (by decide) (by kernel_rfl)
-- spec.l22Committee
noncomputable def sL22Committee_F : FnD := { f := 50, fn := Try.f50, ps := [pa TCommittee], rs := [⟨TCommittee, (.pr (.own 0 .sh) .sh), false⟩] }
noncomputable def sL22Committee_c : List (Nat × Sig) := []
noncomputable def sL22Committee_d : tCommittee × Unit → Option ((tCommittee × Unit) × Unit) := sL22Committee_F.d V sL22Committee_c
noncomputable abbrev sL22Committee_g : Sig := sL22Committee_F.t.sig sL22Committee_d
theorem sL22Committee_b (x1 : tCommittee) : sL22Committee_d (x1, ()) = cnd (fits ((len ([] : List tPoint)) + (len x1.1)) 3) (some ((((app ([] : List tPoint) x1.1), ()), ()), ())) none := (FnD.eq V sL22Committee_c sL22Committee_F (x1, ())).trans (by kernel_rfl)
theorem sL22Committee_k : CallsOk Try.prog gls gvs 50 sL22Committee_g := FnD.ok (F := sL22Committee_F) (cs := sL22Committee_c) V_ok kN Try.func50 (by decide) (by kernel_rfl)
-- spec.l22Copy
noncomputable def sL22Copy_F : FnD := { f := 24, fn := Try.f24, ps := [pa TClient], rs := [⟨TClient, (.pr .sh (.pr (.pr (.own 0 .sh) .sh) (.pr (.pr (.own 0 .sh) .sh) (.pr .sh (.pr (.pr .sh (.pr .sh (.pr .sh (.pr .sh (.pr (.own 0 .sh) .sh))))) .sh))))), false⟩] }
noncomputable def sL22Copy_c : List (Nat × Sig) := [(50, sL22Committee_g)]
noncomputable def sL22Copy_d : tClient × Unit → Option ((tClient × Unit) × Unit) := sL22Copy_F.d V sL22Copy_c
noncomputable abbrev sL22Copy_g : Sig := sL22Copy_F.t.sig sL22Copy_d
theorem sL22Copy_b (x1 : tClient) : sL22Copy_d (x1, ()) = bnd (sL22Committee_d (x1.2.1, ())) (fun r1 => (bnd (sL22Committee_d (x1.2.2.1, ())) (fun r2 => (cnd (fits ((len ([] : List tPoint)) + (len x1.2.2.2.2.1.2.2.2.2.1)) 3) (some (((x1.1, (r1.1.1, (r2.1.1, (x1.2.2.2.1, ((x1.2.2.2.2.1.1, (x1.2.2.2.2.1.2.1, (x1.2.2.2.2.1.2.2.1, (x1.2.2.2.2.1.2.2.2.1, ((app ([] : List tPoint) x1.2.2.2.2.1.2.2.2.2.1), x1.2.2.2.2.1.2.2.2.2.2))))), x1.2.2.2.2.2))))), ()), ())) none)))) := (FnD.eq V sL22Copy_c sL22Copy_F (x1, ())).trans (by kernel_rfl)
theorem sL22Copy_k : CallsOk Try.prog gls gvs 24 sL22Copy_g := FnD.ok (F := sL22Copy_F) (cs := sL22Copy_c) V_ok (kC sL22Committee_k kN) Try.func24 (by decide) (by kernel_rfl)
-- spec.BridgeNew
noncomputable def sBridgeNew_F : FnD := { f := 6, fn := Try.f6, ps := [pa TClient, pa (.int .i64)], rs := [⟨TBridge, (.pr (.pr .sh (.pr (.pr (.own 0 .sh) .sh) (.pr (.pr (.own 0 .sh) .sh) (.pr .sh (.pr (.pr .sh (.pr .sh (.pr .sh (.pr .sh (.pr (.own 0 .sh) .sh))))) .sh))))) (.pr (.pr .sh (.pr (.pr (.own 0 .sh) .sh) (.pr (.pr (.own 0 .sh) .sh) (.pr .sh (.pr (.pr .sh (.pr .sh (.pr .sh (.pr .sh (.pr (.own 0 .sh) .sh))))) .sh))))) (.pr .sh (.pr .sh (.pr (.own 0 .sh) .sh))))), false⟩, rt .bool] }
noncomputable def sBridgeNew_c : List (Nat × Sig) := [(22, sClientOk_g), (23, sL01In_g), (24, sL22Copy_g)]
noncomputable def sBridgeNew_d : tClient × Int × Unit → Option ((tBridge × Bool × Unit) × Unit) := sBridgeNew_F.d V sBridgeNew_c
noncomputable abbrev sBridgeNew_g : Sig := sBridgeNew_F.t.sig sBridgeNew_d
theorem sBridgeNew_b (x1 : tClient) (x2 : Int) : sBridgeNew_d (x1, (x2, ())) = bnd (sClientOk_d (x1, ())) (fun r2 => (cnd (bnot r2.1.1) (some ((zBridge, (false, ())), ())) (bnd (sL01In_d (x2, ((0 : Int), ((10000 : Int), ())))) (fun r3 => (cnd (bnot r3.1.1) (some ((zBridge, (false, ())), ())) (bnd (sL22Copy_d (x1, ())) (fun r4 => (bnd (sL22Copy_d (x1, ())) (fun r5 => (some (((r4.1.1, (r5.1.1, ((bs []), ((0 : Int), (([] : List ByteArray), (x2, ())))))), (true, ())), ()))))))))))) := (FnD.eq V sBridgeNew_c sBridgeNew_F (x1, (x2, ()))).trans (by kernel_rfl)
theorem sBridgeNew_k : CallsOk Try.prog gls gvs 6 sBridgeNew_g := FnD.ok (F := sBridgeNew_F) (cs := sBridgeNew_c) V_ok (kC sClientOk_k (kC sL01In_k (kC sL22Copy_k kN))) Try.func6 (by decide) (by kernel_rfl)
-- impl.isSlot
noncomputable def iIsSlot_F : FnD := { f := 28, fn := Try.f28, ps := [pa (.int .i64)], rs := [rt .bool] }
noncomputable def iIsSlot_c : List (Nat × Sig) := []
noncomputable def iIsSlot_d : Int × Unit → Option ((Bool × Unit) × Unit) := iIsSlot_F.d V iIsSlot_c
noncomputable abbrev iIsSlot_g : Sig := iIsSlot_F.t.sig iIsSlot_d
theorem iIsSlot_b (x1 : Int) : iIsSlot_d (x1, ()) = cnd (ige x1 (0 : Int)) (some (((ile x1 (10000 : Int)), ()), ())) (some ((false, ()), ())) := (FnD.eq V iIsSlot_c iIsSlot_F (x1, ())).trans (by kernel_rfl)
theorem iIsSlot_k : CallsOk Try.prog gls gvs 28 iIsSlot_g := FnD.ok (F := iIsSlot_F) (cs := iIsSlot_c) V_ok kN Try.func28 (by decide) (by kernel_rfl)
-- impl.isDigest
noncomputable def iIsDigest_F : FnD := { f := 72, fn := Try.f72, ps := [pa .str], rs := [rt .bool] }
noncomputable def iIsDigest_c : List (Nat × Sig) := []
noncomputable def iIsDigest_d : ByteArray × Unit → Option ((Bool × Unit) × Unit) := iIsDigest_F.d V iIsDigest_c
noncomputable abbrev iIsDigest_g : Sig := iIsDigest_F.t.sig iIsDigest_d
theorem iIsDigest_b (x1 : ByteArray) : iIsDigest_d (x1, ()) = some (((ieq (ssz x1) (32 : Int)), ()), ()) := (FnD.eq V iIsDigest_c iIsDigest_F (x1, ())).trans (by kernel_rfl)
theorem iIsDigest_k : CallsOk Try.prog gls gvs 72 iIsDigest_g := FnD.ok (F := iIsDigest_F) (cs := iIsDigest_c) V_ok kN Try.func72 (by decide) (by kernel_rfl)
-- impl.HeadOk
noncomputable def iHeadOk_F : FnD := { f := 53, fn := Try.f53, ps := [pa THead], rs := [rt .bool] }
noncomputable def iHeadOk_c : List (Nat × Sig) := [(28, iIsSlot_g), (72, iIsDigest_g)]
noncomputable def iHeadOk_d : tHead × Unit → Option ((Bool × Unit) × Unit) := iHeadOk_F.d V iHeadOk_c
noncomputable abbrev iHeadOk_g : Sig := iHeadOk_F.t.sig iHeadOk_d
theorem iHeadOk_b (x1 : tHead) : iHeadOk_d (x1, ()) = bnd (iIsSlot_d (x1.1, ())) (fun r1 => (cnd r1.1.1 (bnd (iIsDigest_d (x1.2.1, ())) (fun r2 => (cnd r2.1.1 (bnd (iIsDigest_d (x1.2.2.1, ())) (fun r3 => (cnd r3.1.1 (bnd (iIsDigest_d (x1.2.2.2.1, ())) (fun r4 => (some ((r4.1.1, ()), ())))) (some ((false, ()), ()))))) (some ((false, ()), ()))))) (some ((false, ()), ())))) := (FnD.eq V iHeadOk_c iHeadOk_F (x1, ())).trans (by kernel_rfl)
theorem iHeadOk_k : CallsOk Try.prog gls gvs 53 iHeadOk_g := FnD.ok (F := iHeadOk_F) (cs := iHeadOk_c) V_ok (kC iIsSlot_k (kC iIsDigest_k kN)) Try.func53 (by decide) (by kernel_rfl)
-- impl.FpOk
noncomputable def iFpOk_F : FnD := { f := 115, fn := Try.f115, ps := [pa (.int .i64)], rs := [rt .bool] }
noncomputable def iFpOk_c : List (Nat × Sig) := []
noncomputable def iFpOk_d : Int × Unit → Option ((Bool × Unit) × Unit) := iFpOk_F.d V iFpOk_c
noncomputable abbrev iFpOk_g : Sig := iFpOk_F.t.sig iFpOk_d
theorem iFpOk_b (x1 : Int) : iFpOk_d (x1, ()) = cnd (ige x1 (0 : Int)) (some (((ilt x1 (12107 : Int)), ()), ())) (some ((false, ()), ())) := (FnD.eq V iFpOk_c iFpOk_F (x1, ())).trans (by kernel_rfl)
theorem iFpOk_k : CallsOk Try.prog gls gvs 115 iFpOk_g := FnD.ok (F := iFpOk_F) (cs := iFpOk_c) V_ok kN Try.func115 (by decide) (by kernel_rfl)
-- impl.remainder
noncomputable def iRemainder_F : FnD := { f := 106, fn := Try.f106, ps := [pa (.int .i64), pa (.int .i64)], rs := [rt (.int .i64)] }
noncomputable def iRemainder_c : List (Nat × Sig) := []
noncomputable def iRemainder_d : Int × Int × Unit → Option ((Int × Unit) × Unit) := iRemainder_F.d V iRemainder_c
noncomputable abbrev iRemainder_g : Sig := iRemainder_F.t.sig iRemainder_d
theorem iRemainder_b (x1 : Int) (x2 : Int) : iRemainder_d (x1, (x2, ())) = cnd (nz x2) (cnd (ilt (irem x1 x2) (0 : Int)) (some (((iadd .i64 (irem x1 x2) x2), ()), ())) (some (((irem x1 x2), ()), ()))) none := (FnD.eq V iRemainder_c iRemainder_F (x1, (x2, ()))).trans (by kernel_rfl)
theorem iRemainder_k : CallsOk Try.prog gls gvs 106 iRemainder_g := FnD.ok (F := iRemainder_F) (cs := iRemainder_c) V_ok kN Try.func106 (by decide) (by kernel_rfl)
-- impl.FpOf
noncomputable def iFpOf_F : FnD := { f := 128, fn := Try.f128, ps := [pa (.int .i64)], rs := [rt (.int .i64)] }
noncomputable def iFpOf_c : List (Nat × Sig) := [(106, iRemainder_g)]
noncomputable def iFpOf_d : Int × Unit → Option ((Int × Unit) × Unit) := iFpOf_F.d V iFpOf_c
noncomputable abbrev iFpOf_g : Sig := iFpOf_F.t.sig iFpOf_d
theorem iFpOf_b (x1 : Int) : iFpOf_d (x1, ()) = bnd (iRemainder_d (x1, ((12107 : Int), ()))) (fun r1 => (some ((r1.1.1, ()), ()))) := (FnD.eq V iFpOf_c iFpOf_F (x1, ())).trans (by kernel_rfl)
theorem iFpOf_k : CallsOk Try.prog gls gvs 128 iFpOf_g := FnD.ok (F := iFpOf_F) (cs := iFpOf_c) V_ok (kC iRemainder_k kN) Try.func128 (by decide) (by kernel_rfl)
-- impl.FpMul
noncomputable def iFpMul_F : FnD := { f := 116, fn := Try.f116, ps := [pa (.int .i64), pa (.int .i64)], rs := [rt (.int .i64)] }
noncomputable def iFpMul_c : List (Nat × Sig) := [(128, iFpOf_g)]
noncomputable def iFpMul_d : Int × Int × Unit → Option ((Int × Unit) × Unit) := iFpMul_F.d V iFpMul_c
noncomputable abbrev iFpMul_g : Sig := iFpMul_F.t.sig iFpMul_d
theorem iFpMul_b (x1 : Int) (x2 : Int) : iFpMul_d (x1, (x2, ())) = bnd (iFpOf_d (x1, ())) (fun r2 => (bnd (iFpOf_d (x2, ())) (fun r3 => (bnd (iFpOf_d ((imul .i64 r2.1.1 r3.1.1), ())) (fun r4 => (some ((r4.1.1, ()), ()))))))) := (FnD.eq V iFpMul_c iFpMul_F (x1, (x2, ()))).trans (by kernel_rfl)
theorem iFpMul_k : CallsOk Try.prog gls gvs 116 iFpMul_g := FnD.ok (F := iFpMul_F) (cs := iFpMul_c) V_ok (kC iFpOf_k kN) Try.func116 (by decide) (by kernel_rfl)
-- impl.FpAdd
noncomputable def iFpAdd_F : FnD := { f := 129, fn := Try.f129, ps := [pa (.int .i64), pa (.int .i64)], rs := [rt (.int .i64)] }
noncomputable def iFpAdd_c : List (Nat × Sig) := [(128, iFpOf_g)]
noncomputable def iFpAdd_d : Int × Int × Unit → Option ((Int × Unit) × Unit) := iFpAdd_F.d V iFpAdd_c
noncomputable abbrev iFpAdd_g : Sig := iFpAdd_F.t.sig iFpAdd_d
theorem iFpAdd_b (x1 : Int) (x2 : Int) : iFpAdd_d (x1, (x2, ())) = bnd (iFpOf_d (x1, ())) (fun r2 => (bnd (iFpOf_d (x2, ())) (fun r3 => (bnd (iFpOf_d ((iadd .i64 r2.1.1 r3.1.1), ())) (fun r4 => (some ((r4.1.1, ()), ()))))))) := (FnD.eq V iFpAdd_c iFpAdd_F (x1, (x2, ()))).trans (by kernel_rfl)
theorem iFpAdd_k : CallsOk Try.prog gls gvs 129 iFpAdd_g := FnD.ok (F := iFpAdd_F) (cs := iFpAdd_c) V_ok (kC iFpOf_k kN) Try.func129 (by decide) (by kernel_rfl)
-- impl.curveAt
noncomputable def iCurveAt_F : FnD := { f := 117, fn := Try.f117, ps := [pa (.int .i64)], rs := [rt (.int .i64)] }
noncomputable def iCurveAt_c : List (Nat × Sig) := [(116, iFpMul_g), (129, iFpAdd_g)]
noncomputable def iCurveAt_d : Int × Unit → Option ((Int × Unit) × Unit) := iCurveAt_F.d V iCurveAt_c
noncomputable abbrev iCurveAt_g : Sig := iCurveAt_F.t.sig iCurveAt_d
theorem iCurveAt_b (x1 : Int) : iCurveAt_d (x1, ()) = bnd (iFpMul_d (x1, (x1, ()))) (fun r1 => (bnd (iFpMul_d (r1.1.1, (x1, ()))) (fun r2 => (bnd (iFpAdd_d (r2.1.1, (x1, ()))) (fun r3 => (some ((r3.1.1, ()), ()))))))) := (FnD.eq V iCurveAt_c iCurveAt_F (x1, ())).trans (by kernel_rfl)
theorem iCurveAt_k : CallsOk Try.prog gls gvs 117 iCurveAt_g := FnD.ok (F := iCurveAt_F) (cs := iCurveAt_c) V_ok (kC iFpMul_k (kC iFpAdd_k kN)) Try.func117 (by decide) (by kernel_rfl)
-- impl.PointOk
noncomputable def iPointOk_F : FnD := { f := 95, fn := Try.f95, ps := [pa TPoint], rs := [rt .bool] }
noncomputable def iPointOk_c : List (Nat × Sig) := [(115, iFpOk_g), (116, iFpMul_g), (117, iCurveAt_g)]
noncomputable def iPointOk_d : tPoint × Unit → Option ((Bool × Unit) × Unit) := iPointOk_F.d V iPointOk_c
noncomputable abbrev iPointOk_g : Sig := iPointOk_F.t.sig iPointOk_d
theorem iPointOk_b (x1 : tPoint) : iPointOk_d (x1, ()) = cnd x1.2.2.1 (cnd (ieq x1.1 (0 : Int)) (some (((ieq x1.2.1 (0 : Int)), ()), ())) (some ((false, ()), ()))) (bnd (iFpOk_d (x1.1, ())) (fun r1 => (cnd r1.1.1 (bnd (iFpOk_d (x1.2.1, ())) (fun r2 => (cnd r2.1.1 (bnd (iFpMul_d (x1.2.1, (x1.2.1, ()))) (fun r3 => (bnd (iCurveAt_d (x1.1, ())) (fun r4 => (some (((ieq r3.1.1 r4.1.1), ()), ())))))) (some ((false, ()), ()))))) (some ((false, ()), ()))))) := (FnD.eq V iPointOk_c iPointOk_F (x1, ())).trans (by kernel_rfl)
theorem iPointOk_k : CallsOk Try.prog gls gvs 95 iPointOk_g := FnD.ok (F := iPointOk_F) (cs := iPointOk_c) V_ok (kC iFpOk_k (kC iFpMul_k (kC iCurveAt_k kN))) Try.func95 (by decide) (by kernel_rfl)
-- impl.FpSub
noncomputable def iFpSub_F : FnD := { f := 123, fn := Try.f123, ps := [pa (.int .i64), pa (.int .i64)], rs := [rt (.int .i64)] }
noncomputable def iFpSub_c : List (Nat × Sig) := [(128, iFpOf_g)]
noncomputable def iFpSub_d : Int × Int × Unit → Option ((Int × Unit) × Unit) := iFpSub_F.d V iFpSub_c
noncomputable abbrev iFpSub_g : Sig := iFpSub_F.t.sig iFpSub_d
theorem iFpSub_b (x1 : Int) (x2 : Int) : iFpSub_d (x1, (x2, ())) = bnd (iFpOf_d (x1, ())) (fun r2 => (bnd (iFpOf_d (x2, ())) (fun r3 => (bnd (iFpOf_d ((isub .i64 r2.1.1 r3.1.1), ())) (fun r4 => (some ((r4.1.1, ()), ()))))))) := (FnD.eq V iFpSub_c iFpSub_F (x1, (x2, ()))).trans (by kernel_rfl)
theorem iFpSub_k : CallsOk Try.prog gls gvs 123 iFpSub_g := FnD.ok (F := iFpSub_F) (cs := iFpSub_c) V_ok (kC iFpOf_k kN) Try.func123 (by decide) (by kernel_rfl)
-- impl.powerMod
noncomputable def iPowerMod_F : FnD := { f := 91, fn := Try.f91, ps := [pa (.int .i64), pa (.int .i64), pa (.int .i64)], rs := [rt (.int .i64)], joins := [6], cuts := [(6, [.val 0 (.int .i64) .sh, .val 1 (.int .i64) .sh, .val 2 (.int .i64) .sh, .val 7 (.int .i64) .sh]), (3, [.val 0 (.int .i64) .sh, .val 1 (.int .i64) .sh, .val 2 (.int .i64) .sh, .val 7 (.int .i64) .sh])] }
noncomputable def iPowerMod_c : List (Nat × Sig) := [(106, iRemainder_g)]
noncomputable def iPowerMod_d : Int × Int × Int × Unit → Option ((Int × Unit) × Unit) := iPowerMod_F.d V iPowerMod_c
noncomputable abbrev iPowerMod_g : Sig := iPowerMod_F.t.sig iPowerMod_d
noncomputable def iPowerMod_D6 : Int × Int × Int × Int × Unit → Option ((Int × Unit) × Unit) := iPowerMod_F.D V iPowerMod_c 6
noncomputable def iPowerMod_D3 : Int × Int × Int × Int × Unit → Option ((Int × Unit) × Unit) := iPowerMod_F.D V iPowerMod_c 3
theorem iPowerMod_b (x1 : Int) (x2 : Int) (x3 : Int) : iPowerMod_d (x1, (x2, (x3, ()))) = bnd (iRemainder_d (x1, (x3, ()))) (fun r3 => (iPowerMod_D3 (r3.1.1, (x2, (x3, ((1 : Int), ())))))) := (FnD.eq V iPowerMod_c iPowerMod_F (x1, (x2, (x3, ())))).trans (by kernel_rfl)
theorem iPowerMod_q6 (x1 : Int) (x2 : Int) (x3 : Int) (x4 : Int) : iPowerMod_D6 (x1, (x2, (x3, (x4, ())))) = cnd (nz x3) (cnd (nz (2 : Int)) (iPowerMod_D3 ((irem (imul .i64 x1 x1) x3), ((iquo .i64 x2 (2 : Int)), (x3, (x4, ()))))) none) none := (FnD.eqC V iPowerMod_c iPowerMod_F 6 (x1, (x2, (x3, (x4, ()))))).trans (by kernel_rfl)
theorem iPowerMod_q3 (x1 : Int) (x2 : Int) (x3 : Int) (x4 : Int) : iPowerMod_D3 (x1, (x2, (x3, (x4, ())))) = cnd (igt x2 (0 : Int)) (cnd (nz (2 : Int)) (cnd (ieq (irem x2 (2 : Int)) (1 : Int)) (cnd (nz x3) (iPowerMod_D6 (x1, (x2, (x3, ((irem (imul .i64 x4 x1) x3), ()))))) none) (iPowerMod_D6 (x1, (x2, (x3, (x4, ())))))) none) (some ((x4, ()), ())) := (FnD.eqC V iPowerMod_c iPowerMod_F 3 (x1, (x2, (x3, (x4, ()))))).trans (by kernel_rfl)
theorem iPowerMod_k : CallsOk Try.prog gls gvs 91 iPowerMod_g := FnD.ok (F := iPowerMod_F) (cs := iPowerMod_c) V_ok (kC iRemainder_k kN) Try.func91 (by decide) (by kernel_rfl)
-- impl.FpInv
noncomputable def iFpInv_F : FnD := { f := 130, fn := Try.f130, ps := [pa (.int .i64)], rs := [rt (.int .i64)] }
noncomputable def iFpInv_c : List (Nat × Sig) := [(91, iPowerMod_g)]
noncomputable def iFpInv_d : Int × Unit → Option ((Int × Unit) × Unit) := iFpInv_F.d V iFpInv_c
noncomputable abbrev iFpInv_g : Sig := iFpInv_F.t.sig iFpInv_d
theorem iFpInv_b (x1 : Int) : iFpInv_d (x1, ()) = bnd (iPowerMod_d (x1, ((12105 : Int), ((12107 : Int), ())))) (fun r1 => (some ((r1.1.1, ()), ()))) := (FnD.eq V iFpInv_c iFpInv_F (x1, ())).trans (by kernel_rfl)
theorem iFpInv_k : CallsOk Try.prog gls gvs 130 iFpInv_g := FnD.ok (F := iFpInv_F) (cs := iFpInv_c) V_ok (kC iPowerMod_k kN) Try.func130 (by decide) (by kernel_rfl)
-- impl.slopeOf
noncomputable def iSlopeOf_F : FnD := { f := 122, fn := Try.f122, ps := [pa TPoint, pa TPoint], rs := [rt (.int .i64), rt .bool] }
noncomputable def iSlopeOf_c : List (Nat × Sig) := [(123, iFpSub_g), (130, iFpInv_g), (116, iFpMul_g), (129, iFpAdd_g)]
noncomputable def iSlopeOf_d : tPoint × tPoint × Unit → Option ((Int × Bool × Unit) × Unit) := iSlopeOf_F.d V iSlopeOf_c
noncomputable abbrev iSlopeOf_g : Sig := iSlopeOf_F.t.sig iSlopeOf_d
theorem iSlopeOf_b (x1 : tPoint) (x2 : tPoint) : iSlopeOf_d (x1, (x2, ())) = cnd (ine x1.1 x2.1) (bnd (iFpSub_d (x2.2.1, (x1.2.1, ()))) (fun r2 => (bnd (iFpSub_d (x2.1, (x1.1, ()))) (fun r3 => (bnd (iFpInv_d (r3.1.1, ())) (fun r4 => (bnd (iFpMul_d (r2.1.1, (r4.1.1, ()))) (fun r5 => (some ((r5.1.1, (true, ())), ())))))))))) (cnd (ine x1.2.1 x2.2.1) (some (((0 : Int), (false, ())), ())) (cnd (ieq x1.2.1 (0 : Int)) (some (((0 : Int), (false, ())), ())) (bnd (iFpMul_d (x1.1, (x1.1, ()))) (fun r2 => (bnd (iFpMul_d ((3 : Int), (r2.1.1, ()))) (fun r3 => (bnd (iFpAdd_d (r3.1.1, ((1 : Int), ()))) (fun r4 => (bnd (iFpMul_d ((2 : Int), (x1.2.1, ()))) (fun r5 => (bnd (iFpInv_d (r5.1.1, ())) (fun r6 => (bnd (iFpMul_d (r4.1.1, (r6.1.1, ()))) (fun r7 => (some ((r7.1.1, (true, ())), ())))))))))))))))) := (FnD.eq V iSlopeOf_c iSlopeOf_F (x1, (x2, ()))).trans (by kernel_rfl)
theorem iSlopeOf_k : CallsOk Try.prog gls gvs 122 iSlopeOf_g := FnD.ok (F := iSlopeOf_F) (cs := iSlopeOf_c) V_ok (kC iFpSub_k (kC iFpInv_k (kC iFpMul_k (kC iFpAdd_k kN)))) Try.func122 (by decide) (by kernel_rfl)
-- impl.add
noncomputable def iAdd_F : FnD := { f := 107, fn := Try.f107, ps := [pa TPoint, pa TPoint], rs := [rt TPoint] }
noncomputable def iAdd_c : List (Nat × Sig) := [(122, iSlopeOf_g), (116, iFpMul_g), (123, iFpSub_g)]
noncomputable def iAdd_d : tPoint × tPoint × Unit → Option ((tPoint × Unit) × Unit) := iAdd_F.d V iAdd_c
noncomputable abbrev iAdd_g : Sig := iAdd_F.t.sig iAdd_d
theorem iAdd_b (x1 : tPoint) (x2 : tPoint) : iAdd_d (x1, (x2, ())) = cnd x1.2.2.1 (some ((x2, ()), ())) (cnd x2.2.2.1 (some ((x1, ()), ())) (bnd (iSlopeOf_d (x1, (x2, ()))) (fun r2 => (cnd (bnot r2.1.2.1) (some ((((0 : Int), ((0 : Int), (true, ()))), ()), ())) (bnd (iFpMul_d (r2.1.1, (r2.1.1, ()))) (fun r3 => (bnd (iFpSub_d (r3.1.1, (x1.1, ()))) (fun r4 => (bnd (iFpSub_d (r4.1.1, (x2.1, ()))) (fun r5 => (bnd (iFpSub_d (x1.1, (r5.1.1, ()))) (fun r6 => (bnd (iFpMul_d (r2.1.1, (r6.1.1, ()))) (fun r7 => (bnd (iFpSub_d (r7.1.1, (x1.2.1, ()))) (fun r8 => (some (((r5.1.1, (r8.1.1, (false, ()))), ()), ())))))))))))))))))) := (FnD.eq V iAdd_c iAdd_F (x1, (x2, ()))).trans (by kernel_rfl)
theorem iAdd_k : CallsOk Try.prog gls gvs 107 iAdd_g := FnD.ok (F := iAdd_F) (cs := iAdd_c) V_ok (kC iSlopeOf_k (kC iFpMul_k (kC iFpSub_k kN))) Try.func107 (by decide) (by kernel_rfl)
-- impl.PointTimes
noncomputable def iPointTimes_F : FnD := { f := 87, fn := Try.f87, ps := [pa (.int .i64), pa TPoint], rs := [rt TPoint], cuts := [(5, [.val 0 (.int .i64) .sh, .box 3 TPoint .sh, .box 4 TPoint .sh, .box 5 TPoint .sh, .ptr 3 3 0, .ptr 4 4 0, .ptr 5 5 0])] }
noncomputable def iPointTimes_c : List (Nat × Sig) := [(95, iPointOk_g), (106, iRemainder_g), (107, iAdd_g)]
noncomputable def iPointTimes_d : Int × tPoint × Unit → Option ((tPoint × Unit) × Unit) := iPointTimes_F.d V iPointTimes_c
noncomputable abbrev iPointTimes_g : Sig := iPointTimes_F.t.sig iPointTimes_d
noncomputable def iPointTimes_D5 : Int × tPoint × tPoint × tPoint × Unit → Option ((tPoint × Unit) × Unit) := iPointTimes_F.D V iPointTimes_c 5
theorem iPointTimes_b (x1 : Int) (x2 : tPoint) : iPointTimes_d (x1, (x2, ())) = bnd (iPointOk_d (x2, ())) (fun r2 => (cnd (bnot r2.1.1) (some ((((0 : Int), ((0 : Int), (true, ()))), ()), ())) (bnd (iRemainder_d (x1, ((12108 : Int), ()))) (fun r3 => (iPointTimes_D5 (r3.1.1, (x2, (zPoint, (((0 : Int), ((0 : Int), (true, ()))), ()))))))))) := (FnD.eq V iPointTimes_c iPointTimes_F (x1, (x2, ()))).trans (by kernel_rfl)
theorem iPointTimes_q5 (x1 : Int) (x2 : tPoint) (x3 : tPoint) (x4 : tPoint) : iPointTimes_D5 (x1, (x2, (x3, (x4, ())))) = cnd (igt x1 (0 : Int)) (cnd (nz (2 : Int)) (cnd (ieq (irem x1 (2 : Int)) (1 : Int)) (bnd (iAdd_d (x4, (x2, ()))) (fun r4 => (bnd (iAdd_d (x2, (x2, ()))) (fun r5 => (cnd (nz (2 : Int)) (iPointTimes_D5 ((iquo .i64 x1 (2 : Int)), (r5.1.1, (x3, (r4.1.1, ()))))) none))))) (bnd (iAdd_d (x2, (x2, ()))) (fun r4 => (cnd (nz (2 : Int)) (iPointTimes_D5 ((iquo .i64 x1 (2 : Int)), (r4.1.1, (x3, (x4, ()))))) none)))) none) (some ((x4, ()), ())) := (FnD.eqC V iPointTimes_c iPointTimes_F 5 (x1, (x2, (x3, (x4, ()))))).trans (by kernel_rfl)
theorem iPointTimes_k : CallsOk Try.prog gls gvs 87 iPointTimes_g := FnD.ok (F := iPointTimes_F) (cs := iPointTimes_c) V_ok (kC iPointOk_k (kC iRemainder_k (kC iAdd_k kN))) Try.func87 (by decide) (by kernel_rfl)
-- impl.InGroup
noncomputable def iInGroup_F : FnD := { f := 73, fn := Try.f73, ps := [pa TPoint], rs := [rt .bool] }
noncomputable def iInGroup_c : List (Nat × Sig) := [(95, iPointOk_g), (87, iPointTimes_g)]
noncomputable def iInGroup_d : tPoint × Unit → Option ((Bool × Unit) × Unit) := iInGroup_F.d V iInGroup_c
noncomputable abbrev iInGroup_g : Sig := iInGroup_F.t.sig iInGroup_d
theorem iInGroup_b (x1 : tPoint) : iInGroup_d (x1, ()) = bnd (iPointOk_d (x1, ())) (fun r1 => (cnd r1.1.1 (bnd (iPointTimes_d ((1009 : Int), (x1, ()))) (fun r2 => (some ((r2.1.1.2.2.1, ()), ())))) (some ((false, ()), ())))) := (FnD.eq V iInGroup_c iInGroup_F (x1, ())).trans (by kernel_rfl)
theorem iInGroup_k : CallsOk Try.prog gls gvs 73 iInGroup_g := FnD.ok (F := iInGroup_F) (cs := iInGroup_c) V_ok (kC iPointOk_k (kC iPointTimes_k kN)) Try.func73 (by decide) (by kernel_rfl)
-- impl.CommitteeOk
noncomputable def iCommitteeOk_F : FnD := { f := 54, fn := Try.f54, ps := [pa TCommittee], rs := [rt .bool], cuts := [(4, [.val 10 (.sl TPoint) .sh, .val 11 (.int .i64) .sh, .val 12 (.int .i64) .sh])] }
noncomputable def iCommitteeOk_c : List (Nat × Sig) := [(73, iInGroup_g)]
noncomputable def iCommitteeOk_d : tCommittee × Unit → Option ((Bool × Unit) × Unit) := iCommitteeOk_F.d V iCommitteeOk_c
noncomputable abbrev iCommitteeOk_g : Sig := iCommitteeOk_F.t.sig iCommitteeOk_d
noncomputable def iCommitteeOk_D4 : (List tPoint) × Int × Int × Unit → Option ((Bool × Unit) × Unit) := iCommitteeOk_F.D V iCommitteeOk_c 4
theorem iCommitteeOk_b (x1 : tCommittee) : iCommitteeOk_d (x1, ()) = cnd (ine (len x1.1) (8 : Int)) (some ((false, ()), ())) (iCommitteeOk_D4 (x1.1, ((len x1.1), ((0 : Int), ())))) := (FnD.eq V iCommitteeOk_c iCommitteeOk_F (x1, ())).trans (by kernel_rfl)
theorem iCommitteeOk_q4 (x1 : (List tPoint)) (x2 : Int) (x3 : Int) : iCommitteeOk_D4 (x1, (x2, (x3, ()))) = cnd (ilt x3 x2) (cnd (inb x3 (len x1)) (cnd (rd zPoint x1 x3).2.2.1 (some ((false, ()), ())) (bnd (iInGroup_d ((rd zPoint x1 x3), ())) (fun r3 => (cnd (bnot r3.1.1) (some ((false, ()), ())) (iCommitteeOk_D4 (x1, (x2, ((iadd .i64 x3 (1 : Int)), ())))))))) none) (some ((true, ()), ())) := (FnD.eqC V iCommitteeOk_c iCommitteeOk_F 4 (x1, (x2, (x3, ())))).trans (by kernel_rfl)
theorem iCommitteeOk_k : CallsOk Try.prog gls gvs 54 iCommitteeOk_g := FnD.ok (F := iCommitteeOk_F) (cs := iCommitteeOk_c) V_ok (kC iInGroup_k kN) Try.func54 (by decide) (by kernel_rfl)
-- impl.ClientOk
noncomputable def iClientOk_F : FnD := { f := 29, fn := Try.f29, ps := [pa TClient], rs := [rt .bool] }
noncomputable def iClientOk_c : List (Nat × Sig) := [(53, iHeadOk_g), (54, iCommitteeOk_g)]
noncomputable def iClientOk_d : tClient × Unit → Option ((Bool × Unit) × Unit) := iClientOk_F.d V iClientOk_c
noncomputable abbrev iClientOk_g : Sig := iClientOk_F.t.sig iClientOk_d
theorem iClientOk_b (x1 : tClient) : iClientOk_d (x1, ()) = bnd (iHeadOk_d (x1.1, ())) (fun r1 => (cnd (bnot r1.1.1) (some ((false, ()), ())) (bnd (iCommitteeOk_d (x1.2.1, ())) (fun r2 => (cnd (bnot r2.1.1) (some ((false, ()), ())) (cnd x1.2.2.2.1 (bnd (iCommitteeOk_d (x1.2.2.1, ())) (fun r3 => (some ((r3.1.1, ()), ())))) (some (((ieq (len x1.2.2.1.1) (0 : Int)), ()), ())))))))) := (FnD.eq V iClientOk_c iClientOk_F (x1, ())).trans (by kernel_rfl)
theorem iClientOk_k : CallsOk Try.prog gls gvs 29 iClientOk_g := FnD.ok (F := iClientOk_F) (cs := iClientOk_c) V_ok (kC iHeadOk_k (kC iCommitteeOk_k kN)) Try.func29 (by decide) (by kernel_rfl)
-- slices.Clone[[]impl.Point,impl.Point]
noncomputable def g_slices_Clone_impl_Point_impl_Point_F : FnD := { f := 74, fn := Try.f74, ps := [pa (.sl TPoint)], rs := [⟨(.sl TPoint), (.own 0 .sh), false⟩] }
noncomputable def g_slices_Clone_impl_Point_impl_Point_c : List (Nat × Sig) := []
noncomputable def g_slices_Clone_impl_Point_impl_Point_d : (List tPoint) × Unit → Option (((List tPoint) × Unit) × Unit) := g_slices_Clone_impl_Point_impl_Point_F.d V g_slices_Clone_impl_Point_impl_Point_c
noncomputable abbrev g_slices_Clone_impl_Point_impl_Point_g : Sig := g_slices_Clone_impl_Point_impl_Point_F.t.sig g_slices_Clone_impl_Point_impl_Point_d
theorem g_slices_Clone_impl_Point_impl_Point_b (x1 : (List tPoint)) : g_slices_Clone_impl_Point_impl_Point_d (x1, ()) = cnd (ieq (len x1) (0 : Int)) (agree (some (zCommittee, ())) (cnd (fits ((len ([] : List tPoint)) + (len x1)) 3) (some (((app ([] : List tPoint) x1), ()), ())) none)) (cnd (fits ((len ([] : List tPoint)) + (len x1)) 3) (some (((app ([] : List tPoint) x1), ()), ())) none) := (FnD.eq V g_slices_Clone_impl_Point_impl_Point_c g_slices_Clone_impl_Point_impl_Point_F (x1, ())).trans (by kernel_rfl)
theorem g_slices_Clone_impl_Point_impl_Point_k : CallsOk Try.prog gls gvs 74 g_slices_Clone_impl_Point_impl_Point_g := FnD.ok (F := g_slices_Clone_impl_Point_impl_Point_F) (cs := g_slices_Clone_impl_Point_impl_Point_c) V_ok kN Try.func74 (by decide) (by kernel_rfl)
-- impl.copyCommittee
noncomputable def iCopyCommittee_F : FnD := { f := 55, fn := Try.f55, ps := [pa TCommittee], rs := [⟨TCommittee, (.pr (.own 0 .sh) .sh), false⟩] }
noncomputable def iCopyCommittee_c : List (Nat × Sig) := [(74, g_slices_Clone_impl_Point_impl_Point_g)]
noncomputable def iCopyCommittee_d : tCommittee × Unit → Option ((tCommittee × Unit) × Unit) := iCopyCommittee_F.d V iCopyCommittee_c
noncomputable abbrev iCopyCommittee_g : Sig := iCopyCommittee_F.t.sig iCopyCommittee_d
theorem iCopyCommittee_b (x1 : tCommittee) : iCopyCommittee_d (x1, ()) = bnd (g_slices_Clone_impl_Point_impl_Point_d (x1.1, ())) (fun r1 => (some (((r1.1.1, ()), ()), ()))) := (FnD.eq V iCopyCommittee_c iCopyCommittee_F (x1, ())).trans (by kernel_rfl)
theorem iCopyCommittee_k : CallsOk Try.prog gls gvs 55 iCopyCommittee_g := FnD.ok (F := iCopyCommittee_F) (cs := iCopyCommittee_c) V_ok (kC g_slices_Clone_impl_Point_impl_Point_k kN) Try.func55 (by decide) (by kernel_rfl)
-- impl.copyKeys
noncomputable def iCopyKeys_F : FnD := { f := 56, fn := Try.f56, ps := [pa TKeys], rs := [⟨TKeys, (.pr .sh (.pr .sh (.pr .sh (.pr .sh (.pr (.own 0 .sh) .sh))))), false⟩] }
noncomputable def iCopyKeys_c : List (Nat × Sig) := [(74, g_slices_Clone_impl_Point_impl_Point_g)]
noncomputable def iCopyKeys_d : tKeys × Unit → Option ((tKeys × Unit) × Unit) := iCopyKeys_F.d V iCopyKeys_c
noncomputable abbrev iCopyKeys_g : Sig := iCopyKeys_F.t.sig iCopyKeys_d
theorem iCopyKeys_b (x1 : tKeys) : iCopyKeys_d (x1, ()) = bnd (g_slices_Clone_impl_Point_impl_Point_d (x1.2.2.2.2.1, ())) (fun r1 => (some (((x1.1, (x1.2.1, (x1.2.2.1, (x1.2.2.2.1, (r1.1.1, x1.2.2.2.2.2))))), ()), ()))) := (FnD.eq V iCopyKeys_c iCopyKeys_F (x1, ())).trans (by kernel_rfl)
theorem iCopyKeys_k : CallsOk Try.prog gls gvs 56 iCopyKeys_g := FnD.ok (F := iCopyKeys_F) (cs := iCopyKeys_c) V_ok (kC g_slices_Clone_impl_Point_impl_Point_k kN) Try.func56 (by decide) (by kernel_rfl)
-- impl.copyClient
noncomputable def iCopyClient_F : FnD := { f := 30, fn := Try.f30, ps := [pa TClient], rs := [⟨TClient, (.pr .sh (.pr (.pr (.own 0 .sh) .sh) (.pr (.pr (.own 0 .sh) .sh) (.pr .sh (.pr (.pr .sh (.pr .sh (.pr .sh (.pr .sh (.pr (.own 0 .sh) .sh))))) .sh))))), false⟩] }
noncomputable def iCopyClient_c : List (Nat × Sig) := [(55, iCopyCommittee_g), (56, iCopyKeys_g)]
noncomputable def iCopyClient_d : tClient × Unit → Option ((tClient × Unit) × Unit) := iCopyClient_F.d V iCopyClient_c
noncomputable abbrev iCopyClient_g : Sig := iCopyClient_F.t.sig iCopyClient_d
theorem iCopyClient_b (x1 : tClient) : iCopyClient_d (x1, ()) = bnd (iCopyCommittee_d (x1.2.1, ())) (fun r1 => (bnd (iCopyCommittee_d (x1.2.2.1, ())) (fun r2 => (bnd (iCopyKeys_d (x1.2.2.2.2.1, ())) (fun r3 => (some (((x1.1, (r1.1.1, (r2.1.1, (x1.2.2.2.1, (r3.1.1, x1.2.2.2.2.2))))), ()), ()))))))) := (FnD.eq V iCopyClient_c iCopyClient_F (x1, ())).trans (by kernel_rfl)
theorem iCopyClient_k : CallsOk Try.prog gls gvs 30 iCopyClient_g := FnD.ok (F := iCopyClient_F) (cs := iCopyClient_c) V_ok (kC iCopyCommittee_k (kC iCopyKeys_k kN)) Try.func30 (by decide) (by kernel_rfl)
-- impl.BridgeNew
noncomputable def iBridgeNew_F : FnD := { f := 8, fn := Try.f8, ps := [pa TClient, pa (.int .i64)], rs := [⟨TBridge, (.pr (.pr .sh (.pr (.pr (.own 0 .sh) .sh) (.pr (.pr (.own 0 .sh) .sh) (.pr .sh (.pr (.pr .sh (.pr .sh (.pr .sh (.pr .sh (.pr (.own 0 .sh) .sh))))) .sh))))) (.pr (.pr .sh (.pr (.pr (.own 0 .sh) .sh) (.pr (.pr (.own 0 .sh) .sh) (.pr .sh (.pr (.pr .sh (.pr .sh (.pr .sh (.pr .sh (.pr (.own 0 .sh) .sh))))) .sh))))) (.pr .sh (.pr .sh (.pr (.own 0 .sh) .sh))))), false⟩, rt .bool] }
noncomputable def iBridgeNew_c : List (Nat × Sig) := [(28, iIsSlot_g), (29, iClientOk_g), (30, iCopyClient_g)]
noncomputable def iBridgeNew_d : tClient × Int × Unit → Option ((tBridge × Bool × Unit) × Unit) := iBridgeNew_F.d V iBridgeNew_c
noncomputable abbrev iBridgeNew_g : Sig := iBridgeNew_F.t.sig iBridgeNew_d
theorem iBridgeNew_b (x1 : tClient) (x2 : Int) : iBridgeNew_d (x1, (x2, ())) = bnd (iIsSlot_d (x2, ())) (fun r2 => (cnd (bnot r2.1.1) (some ((zBridge, (false, ())), ())) (bnd (iClientOk_d (x1, ())) (fun r3 => (cnd (bnot r3.1.1) (some ((zBridge, (false, ())), ())) (bnd (iCopyClient_d (x1, ())) (fun r4 => (bnd (iCopyClient_d (x1, ())) (fun r5 => (some (((r4.1.1, (r5.1.1, ((bs []), ((0 : Int), (([] : List ByteArray), (x2, ())))))), (true, ())), ()))))))))))) := (FnD.eq V iBridgeNew_c iBridgeNew_F (x1, (x2, ()))).trans (by kernel_rfl)
theorem iBridgeNew_k : CallsOk Try.prog gls gvs 8 iBridgeNew_g := FnD.ok (F := iBridgeNew_F) (cs := iBridgeNew_c) V_ok (kC iIsSlot_k (kC iClientOk_k (kC iCopyClient_k kN))) Try.func8 (by decide) (by kernel_rfl)
-- laws.eqHead
noncomputable def wEqHead_F : FnD := { f := 32, fn := Try.f32, ps := [pa THead, pa THead], rs := [rt .bool] }
noncomputable def wEqHead_c : List (Nat × Sig) := []
noncomputable def wEqHead_d : tHead × tHead × Unit → Option ((Bool × Unit) × Unit) := wEqHead_F.d V wEqHead_c
noncomputable abbrev wEqHead_g : Sig := wEqHead_F.t.sig wEqHead_d
theorem wEqHead_b (x1 : tHead) (x2 : tHead) : wEqHead_d (x1, (x2, ())) = cnd (ine x1.1 x2.1) (some ((false, ()), ())) (cnd (sne x1.2.1 x2.2.1) (some ((false, ()), ())) (cnd (sne x1.2.2.1 x2.2.2.1) (some ((false, ()), ())) (cnd (sne x1.2.2.2.1 x2.2.2.2.1) (some ((false, ()), ())) (some ((true, ()), ()))))) := (FnD.eq V wEqHead_c wEqHead_F (x1, (x2, ()))).trans (by kernel_rfl)
theorem wEqHead_k : CallsOk Try.prog gls gvs 32 wEqHead_g := FnD.ok (F := wEqHead_F) (cs := wEqHead_c) V_ok kN Try.func32 (by decide) (by kernel_rfl)
-- laws.eqPoint
noncomputable def wEqPoint_F : FnD := { f := 57, fn := Try.f57, ps := [pa TPoint, pa TPoint], rs := [rt .bool] }
noncomputable def wEqPoint_c : List (Nat × Sig) := []
noncomputable def wEqPoint_d : tPoint × tPoint × Unit → Option ((Bool × Unit) × Unit) := wEqPoint_F.d V wEqPoint_c
noncomputable abbrev wEqPoint_g : Sig := wEqPoint_F.t.sig wEqPoint_d
theorem wEqPoint_b (x1 : tPoint) (x2 : tPoint) : wEqPoint_d (x1, (x2, ())) = cnd (ine x1.1 x2.1) (some ((false, ()), ())) (cnd (ine x1.2.1 x2.2.1) (some ((false, ()), ())) (cnd (bneB x1.2.2.1 x2.2.2.1) (some ((false, ()), ())) (some ((true, ()), ())))) := (FnD.eq V wEqPoint_c wEqPoint_F (x1, (x2, ()))).trans (by kernel_rfl)
theorem wEqPoint_k : CallsOk Try.prog gls gvs 57 wEqPoint_g := FnD.ok (F := wEqPoint_F) (cs := wEqPoint_c) V_ok kN Try.func57 (by decide) (by kernel_rfl)
-- laws.eqPointS
noncomputable def wEqPointS_F : FnD := { f := 43, fn := Try.f43, ps := [pa (.sl TPoint), pa (.sl TPoint)], rs := [rt .bool], cuts := [(4, [.val 0 (.sl TPoint) .sh, .val 1 (.sl TPoint) .sh, .val 5 (.int .i64) .sh])] }
noncomputable def wEqPointS_c : List (Nat × Sig) := [(57, wEqPoint_g)]
noncomputable def wEqPointS_d : (List tPoint) × (List tPoint) × Unit → Option ((Bool × Unit) × Unit) := wEqPointS_F.d V wEqPointS_c
noncomputable abbrev wEqPointS_g : Sig := wEqPointS_F.t.sig wEqPointS_d
noncomputable def wEqPointS_D4 : (List tPoint) × (List tPoint) × Int × Unit → Option ((Bool × Unit) × Unit) := wEqPointS_F.D V wEqPointS_c 4
theorem wEqPointS_b (x1 : (List tPoint)) (x2 : (List tPoint)) : wEqPointS_d (x1, (x2, ())) = cnd (ine (len x1) (len x2)) (some ((false, ()), ())) (wEqPointS_D4 (x1, (x2, ((0 : Int), ())))) := (FnD.eq V wEqPointS_c wEqPointS_F (x1, (x2, ()))).trans (by kernel_rfl)
theorem wEqPointS_q4 (x1 : (List tPoint)) (x2 : (List tPoint)) (x3 : Int) : wEqPointS_D4 (x1, (x2, (x3, ()))) = cnd (ilt x3 (len x1)) (cnd (inb x3 (len x1)) (cnd (inb x3 (len x2)) (bnd (wEqPoint_d ((rd zPoint x1 x3), ((rd zPoint x2 x3), ()))) (fun r3 => (cnd (bnot r3.1.1) (some ((false, ()), ())) (wEqPointS_D4 (x1, (x2, ((iadd .i64 x3 (1 : Int)), ()))))))) none) none) (some ((true, ()), ())) := (FnD.eqC V wEqPointS_c wEqPointS_F 4 (x1, (x2, (x3, ())))).trans (by kernel_rfl)
theorem wEqPointS_k : CallsOk Try.prog gls gvs 43 wEqPointS_g := FnD.ok (F := wEqPointS_F) (cs := wEqPointS_c) V_ok (kC wEqPoint_k kN) Try.func43 (by decide) (by kernel_rfl)
-- laws.eqCommittee
noncomputable def wEqCommittee_F : FnD := { f := 33, fn := Try.f33, ps := [pa TCommittee, pa TCommittee], rs := [rt .bool] }
noncomputable def wEqCommittee_c : List (Nat × Sig) := [(43, wEqPointS_g)]
noncomputable def wEqCommittee_d : tCommittee × tCommittee × Unit → Option ((Bool × Unit) × Unit) := wEqCommittee_F.d V wEqCommittee_c
noncomputable abbrev wEqCommittee_g : Sig := wEqCommittee_F.t.sig wEqCommittee_d
theorem wEqCommittee_b (x1 : tCommittee) (x2 : tCommittee) : wEqCommittee_d (x1, (x2, ())) = bnd (wEqPointS_d (x1.1, (x2.1, ()))) (fun r2 => (cnd (bnot r2.1.1) (some ((false, ()), ())) (some ((true, ()), ())))) := (FnD.eq V wEqCommittee_c wEqCommittee_F (x1, (x2, ()))).trans (by kernel_rfl)
theorem wEqCommittee_k : CallsOk Try.prog gls gvs 33 wEqCommittee_g := FnD.ok (F := wEqCommittee_F) (cs := wEqCommittee_c) V_ok (kC wEqPointS_k kN) Try.func33 (by decide) (by kernel_rfl)
-- laws.eqKeys
noncomputable def wEqKeys_F : FnD := { f := 34, fn := Try.f34, ps := [pa TKeys, pa TKeys], rs := [rt .bool] }
noncomputable def wEqKeys_c : List (Nat × Sig) := [(57, wEqPoint_g), (43, wEqPointS_g)]
noncomputable def wEqKeys_d : tKeys × tKeys × Unit → Option ((Bool × Unit) × Unit) := wEqKeys_F.d V wEqKeys_c
noncomputable abbrev wEqKeys_g : Sig := wEqKeys_F.t.sig wEqKeys_d
theorem wEqKeys_b (x1 : tKeys) (x2 : tKeys) : wEqKeys_d (x1, (x2, ())) = bnd (wEqPoint_d (x1.1, (x2.1, ()))) (fun r2 => (cnd (bnot r2.1.1) (some ((false, ()), ())) (bnd (wEqPoint_d (x1.2.1, (x2.2.1, ()))) (fun r3 => (cnd (bnot r3.1.1) (some ((false, ()), ())) (bnd (wEqPoint_d (x1.2.2.1, (x2.2.2.1, ()))) (fun r4 => (cnd (bnot r4.1.1) (some ((false, ()), ())) (bnd (wEqPoint_d (x1.2.2.2.1, (x2.2.2.2.1, ()))) (fun r5 => (cnd (bnot r5.1.1) (some ((false, ()), ())) (bnd (wEqPointS_d (x1.2.2.2.2.1, (x2.2.2.2.2.1, ()))) (fun r6 => (cnd (bnot r6.1.1) (some ((false, ()), ())) (some ((true, ()), ())))))))))))))))) := (FnD.eq V wEqKeys_c wEqKeys_F (x1, (x2, ()))).trans (by kernel_rfl)
theorem wEqKeys_k : CallsOk Try.prog gls gvs 34 wEqKeys_g := FnD.ok (F := wEqKeys_F) (cs := wEqKeys_c) V_ok (kC wEqPoint_k (kC wEqPointS_k kN)) Try.func34 (by decide) (by kernel_rfl)
-- laws.eqClient
noncomputable def wEqClient_F : FnD := { f := 10, fn := Try.f10, ps := [pa TClient, pa TClient], rs := [rt .bool] }
noncomputable def wEqClient_c : List (Nat × Sig) := [(32, wEqHead_g), (33, wEqCommittee_g), (34, wEqKeys_g)]
noncomputable def wEqClient_d : tClient × tClient × Unit → Option ((Bool × Unit) × Unit) := wEqClient_F.d V wEqClient_c
noncomputable abbrev wEqClient_g : Sig := wEqClient_F.t.sig wEqClient_d
theorem wEqClient_b (x1 : tClient) (x2 : tClient) : wEqClient_d (x1, (x2, ())) = bnd (wEqHead_d (x1.1, (x2.1, ()))) (fun r2 => (cnd (bnot r2.1.1) (some ((false, ()), ())) (bnd (wEqCommittee_d (x1.2.1, (x2.2.1, ()))) (fun r3 => (cnd (bnot r3.1.1) (some ((false, ()), ())) (bnd (wEqCommittee_d (x1.2.2.1, (x2.2.2.1, ()))) (fun r4 => (cnd (bnot r4.1.1) (some ((false, ()), ())) (cnd (bneB x1.2.2.2.1 x2.2.2.2.1) (some ((false, ()), ())) (bnd (wEqKeys_d (x1.2.2.2.2.1, (x2.2.2.2.2.1, ()))) (fun r5 => (cnd (bnot r5.1.1) (some ((false, ()), ())) (some ((true, ()), ())))))))))))))) := (FnD.eq V wEqClient_c wEqClient_F (x1, (x2, ()))).trans (by kernel_rfl)
theorem wEqClient_k : CallsOk Try.prog gls gvs 10 wEqClient_g := FnD.ok (F := wEqClient_F) (cs := wEqClient_c) V_ok (kC wEqHead_k (kC wEqCommittee_k (kC wEqKeys_k kN))) Try.func10 (by decide) (by kernel_rfl)
-- laws.eqStringS
noncomputable def wEqStringS_F : FnD := { f := 31, fn := Try.f31, ps := [pa (.sl .str), pa (.sl .str)], rs := [rt .bool], cuts := [(4, [.val 0 (.sl .str) .sh, .val 1 (.sl .str) .sh, .val 5 (.int .i64) .sh])] }
noncomputable def wEqStringS_c : List (Nat × Sig) := []
noncomputable def wEqStringS_d : (List ByteArray) × (List ByteArray) × Unit → Option ((Bool × Unit) × Unit) := wEqStringS_F.d V wEqStringS_c
noncomputable abbrev wEqStringS_g : Sig := wEqStringS_F.t.sig wEqStringS_d
noncomputable def wEqStringS_D4 : (List ByteArray) × (List ByteArray) × Int × Unit → Option ((Bool × Unit) × Unit) := wEqStringS_F.D V wEqStringS_c 4
theorem wEqStringS_b (x1 : (List ByteArray)) (x2 : (List ByteArray)) : wEqStringS_d (x1, (x2, ())) = cnd (ine (len x1) (len x2)) (some ((false, ()), ())) (wEqStringS_D4 (x1, (x2, ((0 : Int), ())))) := (FnD.eq V wEqStringS_c wEqStringS_F (x1, (x2, ()))).trans (by kernel_rfl)
theorem wEqStringS_q4 (x1 : (List ByteArray)) (x2 : (List ByteArray)) (x3 : Int) : wEqStringS_D4 (x1, (x2, (x3, ()))) = cnd (ilt x3 (len x1)) (cnd (inb x3 (len x1)) (cnd (inb x3 (len x2)) (cnd (sne (rd (bs []) x1 x3) (rd (bs []) x2 x3)) (some ((false, ()), ())) (wEqStringS_D4 (x1, (x2, ((iadd .i64 x3 (1 : Int)), ()))))) none) none) (some ((true, ()), ())) := (FnD.eqC V wEqStringS_c wEqStringS_F 4 (x1, (x2, (x3, ())))).trans (by kernel_rfl)
theorem wEqStringS_k : CallsOk Try.prog gls gvs 31 wEqStringS_g := FnD.ok (F := wEqStringS_F) (cs := wEqStringS_c) V_ok kN Try.func31 (by decide) (by kernel_rfl)
-- laws.eqBridge
noncomputable def wEqBridge_F : FnD := { f := 9, fn := Try.f9, ps := [pa TBridge, pa TBridge], rs := [rt .bool] }
noncomputable def wEqBridge_c : List (Nat × Sig) := [(10, wEqClient_g), (31, wEqStringS_g)]
noncomputable def wEqBridge_d : tBridge × tBridge × Unit → Option ((Bool × Unit) × Unit) := wEqBridge_F.d V wEqBridge_c
noncomputable abbrev wEqBridge_g : Sig := wEqBridge_F.t.sig wEqBridge_d
theorem wEqBridge_b (x1 : tBridge) (x2 : tBridge) : wEqBridge_d (x1, (x2, ())) = bnd (wEqClient_d (x1.1, (x2.1, ()))) (fun r2 => (cnd (bnot r2.1.1) (some ((false, ()), ())) (bnd (wEqClient_d (x1.2.1, (x2.2.1, ()))) (fun r3 => (cnd (bnot r3.1.1) (some ((false, ()), ())) (cnd (sne x1.2.2.1 x2.2.2.1) (some ((false, ()), ())) (cnd (ine x1.2.2.2.1 x2.2.2.2.1) (some ((false, ()), ())) (bnd (wEqStringS_d (x1.2.2.2.2.1, (x2.2.2.2.2.1, ()))) (fun r4 => (cnd (bnot r4.1.1) (some ((false, ()), ())) (cnd (ine x1.2.2.2.2.2.1 x2.2.2.2.2.2.1) (some ((false, ()), ())) (some ((true, ()), ()))))))))))))) := (FnD.eq V wEqBridge_c wEqBridge_F (x1, (x2, ()))).trans (by kernel_rfl)
theorem wEqBridge_k : CallsOk Try.prog gls gvs 9 wEqBridge_g := FnD.ok (F := wEqBridge_F) (cs := wEqBridge_c) V_ok (kC wEqClient_k (kC wEqStringS_k kN)) Try.func9 (by decide) (by kernel_rfl)
-- laws.markPointS
noncomputable def wMarkPointS_F : FnD := { f := 44, fn := Try.f44, ps := [⟨(.sl TPoint), (.own 1 .sh), true, false, none⟩, pa (.int .i64)], rs := [rt (.int .i64)], cuts := [(2, [.val 0 (.sl TPoint) (.own 1 .sh), .val 1 (.int .i64) .sh, .val 5 (.int .i64) .sh])] }
noncomputable def wMarkPointS_c : List (Nat × Sig) := []
noncomputable def wMarkPointS_d : (List tPoint) × Int × Unit → Option ((Int × Unit) × (List tPoint) × Unit) := wMarkPointS_F.d V wMarkPointS_c
noncomputable abbrev wMarkPointS_g : Sig := wMarkPointS_F.t.sig wMarkPointS_d
noncomputable def wMarkPointS_D2 : (List tPoint) × Int × Int × Unit → Option ((Int × Unit) × (List tPoint) × Unit) := wMarkPointS_F.D V wMarkPointS_c 2
theorem wMarkPointS_b (x1 : (List tPoint)) (x2 : Int) : wMarkPointS_d (x1, (x2, ())) = wMarkPointS_D2 (x1, (x2, ((0 : Int), ()))) := (FnD.eq V wMarkPointS_c wMarkPointS_F (x1, (x2, ()))).trans (by kernel_rfl)
theorem wMarkPointS_q2 (x1 : (List tPoint)) (x2 : Int) (x3 : Int) : wMarkPointS_D2 (x1, (x2, (x3, ()))) = cnd (ilt x3 (len x1)) (cnd (inb x3 (len x1)) (cnd (inb x3 (len (upd x1 x3 (x2, (rd zPoint x1 x3).2)))) (cnd (nz (3 : Int)) (cnd (inb x3 (len (upd (upd x1 x3 (x2, (rd zPoint x1 x3).2)) x3 ((rd zPoint (upd x1 x3 (x2, (rd zPoint x1 x3).2)) x3).1, ((iadd .i64 x2 (1 : Int)), (rd zPoint (upd x1 x3 (x2, (rd zPoint x1 x3).2)) x3).2.2))))) (wMarkPointS_D2 ((upd (upd (upd x1 x3 (x2, (rd zPoint x1 x3).2)) x3 ((rd zPoint (upd x1 x3 (x2, (rd zPoint x1 x3).2)) x3).1, ((iadd .i64 x2 (1 : Int)), (rd zPoint (upd x1 x3 (x2, (rd zPoint x1 x3).2)) x3).2.2))) x3 ((rd zPoint (upd (upd x1 x3 (x2, (rd zPoint x1 x3).2)) x3 ((rd zPoint (upd x1 x3 (x2, (rd zPoint x1 x3).2)) x3).1, ((iadd .i64 x2 (1 : Int)), (rd zPoint (upd x1 x3 (x2, (rd zPoint x1 x3).2)) x3).2.2))) x3).1, ((rd zPoint (upd (upd x1 x3 (x2, (rd zPoint x1 x3).2)) x3 ((rd zPoint (upd x1 x3 (x2, (rd zPoint x1 x3).2)) x3).1, ((iadd .i64 x2 (1 : Int)), (rd zPoint (upd x1 x3 (x2, (rd zPoint x1 x3).2)) x3).2.2))) x3).2.1, ((ieq (irem (iadd .i64 (iadd .i64 x2 (1 : Int)) (1 : Int)) (3 : Int)) (0 : Int)), (rd zPoint (upd (upd x1 x3 (x2, (rd zPoint x1 x3).2)) x3 ((rd zPoint (upd x1 x3 (x2, (rd zPoint x1 x3).2)) x3).1, ((iadd .i64 x2 (1 : Int)), (rd zPoint (upd x1 x3 (x2, (rd zPoint x1 x3).2)) x3).2.2))) x3).2.2.2)))), ((iadd .i64 (iadd .i64 (iadd .i64 x2 (1 : Int)) (1 : Int)) (1 : Int)), ((iadd .i64 x3 (1 : Int)), ())))) none) none) none) none) (some ((x2, ()), (x1, ()))) := (FnD.eqC V wMarkPointS_c wMarkPointS_F 2 (x1, (x2, (x3, ())))).trans (by kernel_rfl)
theorem wMarkPointS_k : CallsOk Try.prog gls gvs 44 wMarkPointS_g := FnD.ok (F := wMarkPointS_F) (cs := wMarkPointS_c) V_ok kN Try.func44 (by decide) (by kernel_rfl)
-- laws.markCommittee
noncomputable def wMarkCommittee_F : FnD := { f := 35, fn := Try.f35, ps := [⟨TCommittee, (.pr (.own 1 .sh) .sh), true, false, some 2⟩, pa (.int .i64)], rs := [rt (.int .i64)] }
noncomputable def wMarkCommittee_c : List (Nat × Sig) := [(44, wMarkPointS_g)]
noncomputable def wMarkCommittee_d : tCommittee × Int × Unit → Option ((Int × Unit) × tCommittee × Unit) := wMarkCommittee_F.d V wMarkCommittee_c
noncomputable abbrev wMarkCommittee_g : Sig := wMarkCommittee_F.t.sig wMarkCommittee_d
theorem wMarkCommittee_b (x1 : tCommittee) (x2 : Int) : wMarkCommittee_d (x1, (x2, ())) = bnd (wMarkPointS_d (x1.1, (x2, ()))) (fun r2 => (some ((r2.1.1, ()), ((r2.2.1, x1.2), ())))) := (FnD.eq V wMarkCommittee_c wMarkCommittee_F (x1, (x2, ()))).trans (by kernel_rfl)
theorem wMarkCommittee_k : CallsOk Try.prog gls gvs 35 wMarkCommittee_g := FnD.ok (F := wMarkCommittee_F) (cs := wMarkCommittee_c) V_ok (kC wMarkPointS_k kN) Try.func35 (by decide) (by kernel_rfl)
-- laws.markKeys
noncomputable def wMarkKeys_F : FnD := { f := 36, fn := Try.f36, ps := [⟨TKeys, (.pr .sh (.pr .sh (.pr .sh (.pr .sh (.pr (.own 1 .sh) .sh))))), true, false, some 2⟩, pa (.int .i64)], rs := [rt (.int .i64)] }
noncomputable def wMarkKeys_c : List (Nat × Sig) := [(44, wMarkPointS_g)]
noncomputable def wMarkKeys_d : tKeys × Int × Unit → Option ((Int × Unit) × tKeys × Unit) := wMarkKeys_F.d V wMarkKeys_c
noncomputable abbrev wMarkKeys_g : Sig := wMarkKeys_F.t.sig wMarkKeys_d
theorem wMarkKeys_b (x1 : tKeys) (x2 : Int) : wMarkKeys_d (x1, (x2, ())) = bnd (wMarkPointS_d (x1.2.2.2.2.1, (x2, ()))) (fun r2 => (some ((r2.1.1, ()), ((x1.1, (x1.2.1, (x1.2.2.1, (x1.2.2.2.1, (r2.2.1, x1.2.2.2.2.2))))), ())))) := (FnD.eq V wMarkKeys_c wMarkKeys_F (x1, (x2, ()))).trans (by kernel_rfl)
theorem wMarkKeys_k : CallsOk Try.prog gls gvs 36 wMarkKeys_g := FnD.ok (F := wMarkKeys_F) (cs := wMarkKeys_c) V_ok (kC wMarkPointS_k kN) Try.func36 (by decide) (by kernel_rfl)
-- laws.markClient
noncomputable def wMarkClient_F : FnD := { f := 11, fn := Try.f11, ps := [⟨TClient, (.pr .sh (.pr (.pr (.own 1 .sh) .sh) (.pr (.pr (.own 2 .sh) .sh) (.pr .sh (.pr (.pr .sh (.pr .sh (.pr .sh (.pr .sh (.pr (.own 3 .sh) .sh))))) .sh))))), true, false, some 2⟩, pa (.int .i64)], rs := [rt (.int .i64)] }
noncomputable def wMarkClient_c : List (Nat × Sig) := [(35, wMarkCommittee_g), (36, wMarkKeys_g)]
noncomputable def wMarkClient_d : tClient × Int × Unit → Option ((Int × Unit) × tClient × Unit) := wMarkClient_F.d V wMarkClient_c
noncomputable abbrev wMarkClient_g : Sig := wMarkClient_F.t.sig wMarkClient_d
theorem wMarkClient_b (x1 : tClient) (x2 : Int) : wMarkClient_d (x1, (x2, ())) = bnd (wMarkCommittee_d (x1.2.1, (x2, ()))) (fun r2 => (bnd (wMarkCommittee_d (x1.2.2.1, (r2.1.1, ()))) (fun r3 => (bnd (wMarkKeys_d (x1.2.2.2.2.1, (r3.1.1, ()))) (fun r4 => (some ((r4.1.1, ()), ((x1.1, ((r2.2.1.1, x1.2.1.2), ((r3.2.1.1, x1.2.2.1.2), (x1.2.2.2.1, (((x1.2.2.2.2.1.1.1, (x1.2.2.2.2.1.1.2.1, (x1.2.2.2.2.1.1.2.2.1, x1.2.2.2.2.1.1.2.2.2))), ((x1.2.2.2.2.1.2.1.1, (x1.2.2.2.2.1.2.1.2.1, (x1.2.2.2.2.1.2.1.2.2.1, x1.2.2.2.2.1.2.1.2.2.2))), ((x1.2.2.2.2.1.2.2.1.1, (x1.2.2.2.2.1.2.2.1.2.1, (x1.2.2.2.2.1.2.2.1.2.2.1, x1.2.2.2.2.1.2.2.1.2.2.2))), ((x1.2.2.2.2.1.2.2.2.1.1, (x1.2.2.2.2.1.2.2.2.1.2.1, (x1.2.2.2.2.1.2.2.2.1.2.2.1, x1.2.2.2.2.1.2.2.2.1.2.2.2))), (r4.2.1.2.2.2.2.1, x1.2.2.2.2.1.2.2.2.2.2))))), x1.2.2.2.2.2))))), ())))))))) := (FnD.eq V wMarkClient_c wMarkClient_F (x1, (x2, ()))).trans (by kernel_rfl)
theorem wMarkClient_k : CallsOk Try.prog gls gvs 11 wMarkClient_g := FnD.ok (F := wMarkClient_F) (cs := wMarkClient_c) V_ok (kC wMarkCommittee_k (kC wMarkKeys_k kN)) Try.func11 (by decide) (by kernel_rfl)
-- laws.markText
noncomputable def wMarkText_F : FnD := { f := 58, fn := Try.f58, ps := [pa (.int .i64)], rs := [rt .str], cuts := [(4, [.val 0 (.int .i64) .sh, .val 3 .str .sh])] }
noncomputable def wMarkText_c : List (Nat × Sig) := []
noncomputable def wMarkText_d : Int × Unit → Option ((ByteArray × Unit) × Unit) := wMarkText_F.d V wMarkText_c
noncomputable abbrev wMarkText_g : Sig := wMarkText_F.t.sig wMarkText_d
noncomputable def wMarkText_D4 : Int × ByteArray × Unit → Option ((ByteArray × Unit) × Unit) := wMarkText_F.D V wMarkText_c 4
theorem wMarkText_b (x1 : Int) : wMarkText_d (x1, ()) = cnd (ile x1 (0 : Int)) (some (((bs [109, 48]), ()), ())) (wMarkText_D4 (x1, ((bs []), ()))) := (FnD.eq V wMarkText_c wMarkText_F (x1, ())).trans (by kernel_rfl)
theorem wMarkText_q4 (x1 : Int) (x2 : ByteArray) : wMarkText_D4 (x1, (x2, ())) = cnd (igt x1 (0 : Int)) (cnd (nz (10 : Int)) (cnd (fits ((ssz (sof ((iconv .u8 (iadd .i64 (48 : Int) (irem x1 (10 : Int)))) :: ([] : List Int)))) + (ssz x2)) 1) (cnd (nz (10 : Int)) (wMarkText_D4 ((iquo .i64 x1 (10 : Int)), ((scat (sof ((iconv .u8 (iadd .i64 (48 : Int) (irem x1 (10 : Int)))) :: ([] : List Int))) x2), ()))) none) none) none) (cnd (fits ((ssz (bs [109])) + (ssz x2)) 1) (some (((scat (bs [109]) x2), ()), ())) none) := (FnD.eqC V wMarkText_c wMarkText_F 4 (x1, (x2, ()))).trans (by kernel_rfl)
theorem wMarkText_k : CallsOk Try.prog gls gvs 58 wMarkText_g := FnD.ok (F := wMarkText_F) (cs := wMarkText_c) V_ok kN Try.func58 (by decide) (by kernel_rfl)
-- laws.markStringS
noncomputable def wMarkStringS_F : FnD := { f := 37, fn := Try.f37, ps := [⟨(.sl .str), (.own 1 .sh), true, false, none⟩, pa (.int .i64)], rs := [rt (.int .i64)], cuts := [(2, [.val 0 (.sl .str) (.own 1 .sh), .val 1 (.int .i64) .sh, .val 5 (.int .i64) .sh])] }
noncomputable def wMarkStringS_c : List (Nat × Sig) := [(58, wMarkText_g)]
noncomputable def wMarkStringS_d : (List ByteArray) × Int × Unit → Option ((Int × Unit) × (List ByteArray) × Unit) := wMarkStringS_F.d V wMarkStringS_c
noncomputable abbrev wMarkStringS_g : Sig := wMarkStringS_F.t.sig wMarkStringS_d
noncomputable def wMarkStringS_D2 : (List ByteArray) × Int × Int × Unit → Option ((Int × Unit) × (List ByteArray) × Unit) := wMarkStringS_F.D V wMarkStringS_c 2
theorem wMarkStringS_b (x1 : (List ByteArray)) (x2 : Int) : wMarkStringS_d (x1, (x2, ())) = wMarkStringS_D2 (x1, (x2, ((0 : Int), ()))) := (FnD.eq V wMarkStringS_c wMarkStringS_F (x1, (x2, ()))).trans (by kernel_rfl)
theorem wMarkStringS_q2 (x1 : (List ByteArray)) (x2 : Int) (x3 : Int) : wMarkStringS_D2 (x1, (x2, (x3, ()))) = cnd (ilt x3 (len x1)) (bnd (wMarkText_d (x2, ())) (fun r3 => (cnd (inb x3 (len x1)) (wMarkStringS_D2 ((upd x1 x3 r3.1.1), ((iadd .i64 x2 (1 : Int)), ((iadd .i64 x3 (1 : Int)), ())))) none))) (some ((x2, ()), (x1, ()))) := (FnD.eqC V wMarkStringS_c wMarkStringS_F 2 (x1, (x2, (x3, ())))).trans (by kernel_rfl)
theorem wMarkStringS_k : CallsOk Try.prog gls gvs 37 wMarkStringS_g := FnD.ok (F := wMarkStringS_F) (cs := wMarkStringS_c) V_ok (kC wMarkText_k kN) Try.func37 (by decide) (by kernel_rfl)
-- laws.markBridge
noncomputable def wMarkBridge_F : FnD := { f := 12, fn := Try.f12, ps := [⟨TBridge, (.pr (.pr .sh (.pr (.pr (.own 1 .sh) .sh) (.pr (.pr (.own 2 .sh) .sh) (.pr .sh (.pr (.pr .sh (.pr .sh (.pr .sh (.pr .sh (.pr (.own 3 .sh) .sh))))) .sh))))) (.pr (.pr .sh (.pr (.pr (.own 4 .sh) .sh) (.pr (.pr (.own 5 .sh) .sh) (.pr .sh (.pr (.pr .sh (.pr .sh (.pr .sh (.pr .sh (.pr (.own 6 .sh) .sh))))) .sh))))) (.pr .sh (.pr .sh (.pr (.own 7 .sh) .sh))))), true, false, some 2⟩, pa (.int .i64)], rs := [rt (.int .i64)] }
noncomputable def wMarkBridge_c : List (Nat × Sig) := [(11, wMarkClient_g), (37, wMarkStringS_g)]
noncomputable def wMarkBridge_d : tBridge × Int × Unit → Option ((Int × Unit) × tBridge × Unit) := wMarkBridge_F.d V wMarkBridge_c
noncomputable abbrev wMarkBridge_g : Sig := wMarkBridge_F.t.sig wMarkBridge_d
theorem wMarkBridge_b (x1 : tBridge) (x2 : Int) : wMarkBridge_d (x1, (x2, ())) = bnd (wMarkClient_d (x1.1, (x2, ()))) (fun r2 => (bnd (wMarkClient_d (x1.2.1, (r2.1.1, ()))) (fun r3 => (bnd (wMarkStringS_d (x1.2.2.2.2.1, (r3.1.1, ()))) (fun r4 => (some ((r4.1.1, ()), ((((x1.1.1.1, (x1.1.1.2.1, (x1.1.1.2.2.1, (x1.1.1.2.2.2.1, x1.1.1.2.2.2.2)))), ((r2.2.1.2.1.1, x1.1.2.1.2), ((r2.2.1.2.2.1.1, x1.1.2.2.1.2), (x1.1.2.2.2.1, (((x1.1.2.2.2.2.1.1.1, (x1.1.2.2.2.2.1.1.2.1, (x1.1.2.2.2.2.1.1.2.2.1, x1.1.2.2.2.2.1.1.2.2.2))), ((x1.1.2.2.2.2.1.2.1.1, (x1.1.2.2.2.2.1.2.1.2.1, (x1.1.2.2.2.2.1.2.1.2.2.1, x1.1.2.2.2.2.1.2.1.2.2.2))), ((x1.1.2.2.2.2.1.2.2.1.1, (x1.1.2.2.2.2.1.2.2.1.2.1, (x1.1.2.2.2.2.1.2.2.1.2.2.1, x1.1.2.2.2.2.1.2.2.1.2.2.2))), ((x1.1.2.2.2.2.1.2.2.2.1.1, (x1.1.2.2.2.2.1.2.2.2.1.2.1, (x1.1.2.2.2.2.1.2.2.2.1.2.2.1, x1.1.2.2.2.2.1.2.2.2.1.2.2.2))), (r2.2.1.2.2.2.2.1.2.2.2.2.1, x1.1.2.2.2.2.1.2.2.2.2.2))))), x1.1.2.2.2.2.2))))), (((x1.2.1.1.1, (x1.2.1.1.2.1, (x1.2.1.1.2.2.1, (x1.2.1.1.2.2.2.1, x1.2.1.1.2.2.2.2)))), ((r3.2.1.2.1.1, x1.2.1.2.1.2), ((r3.2.1.2.2.1.1, x1.2.1.2.2.1.2), (x1.2.1.2.2.2.1, (((x1.2.1.2.2.2.2.1.1.1, (x1.2.1.2.2.2.2.1.1.2.1, (x1.2.1.2.2.2.2.1.1.2.2.1, x1.2.1.2.2.2.2.1.1.2.2.2))), ((x1.2.1.2.2.2.2.1.2.1.1, (x1.2.1.2.2.2.2.1.2.1.2.1, (x1.2.1.2.2.2.2.1.2.1.2.2.1, x1.2.1.2.2.2.2.1.2.1.2.2.2))), ((x1.2.1.2.2.2.2.1.2.2.1.1, (x1.2.1.2.2.2.2.1.2.2.1.2.1, (x1.2.1.2.2.2.2.1.2.2.1.2.2.1, x1.2.1.2.2.2.2.1.2.2.1.2.2.2))), ((x1.2.1.2.2.2.2.1.2.2.2.1.1, (x1.2.1.2.2.2.2.1.2.2.2.1.2.1, (x1.2.1.2.2.2.2.1.2.2.2.1.2.2.1, x1.2.1.2.2.2.2.1.2.2.2.1.2.2.2))), (r3.2.1.2.2.2.2.1.2.2.2.2.1, x1.2.1.2.2.2.2.1.2.2.2.2.2))))), x1.2.1.2.2.2.2.2))))), (x1.2.2.1, (x1.2.2.2.1, (r4.2.1, x1.2.2.2.2.2))))), ())))))))) := (FnD.eq V wMarkBridge_c wMarkBridge_F (x1, (x2, ()))).trans (by kernel_rfl)
theorem wMarkBridge_k : CallsOk Try.prog gls gvs 12 wMarkBridge_g := FnD.ok (F := wMarkBridge_F) (cs := wMarkBridge_c) V_ok (kC wMarkClient_k (kC wMarkStringS_k kN)) Try.func12 (by decide) (by kernel_rfl)
-- laws.heldPointS
noncomputable def wHeldPointS_F : FnD := { f := 46, fn := Try.f46, ps := [pa (.sl TPoint), pa (.int .i64)], rs := [rt (.int .i64)], cuts := [(2, [.val 0 (.sl TPoint) .sh, .val 1 (.int .i64) .sh, .val 5 (.int .i64) .sh])] }
noncomputable def wHeldPointS_c : List (Nat × Sig) := []
noncomputable def wHeldPointS_d : (List tPoint) × Int × Unit → Option ((Int × Unit) × Unit) := wHeldPointS_F.d V wHeldPointS_c
noncomputable abbrev wHeldPointS_g : Sig := wHeldPointS_F.t.sig wHeldPointS_d
noncomputable def wHeldPointS_D2 : (List tPoint) × Int × Int × Unit → Option ((Int × Unit) × Unit) := wHeldPointS_F.D V wHeldPointS_c 2
theorem wHeldPointS_b (x1 : (List tPoint)) (x2 : Int) : wHeldPointS_d (x1, (x2, ())) = wHeldPointS_D2 (x1, (x2, ((0 : Int), ()))) := (FnD.eq V wHeldPointS_c wHeldPointS_F (x1, (x2, ()))).trans (by kernel_rfl)
theorem wHeldPointS_q2 (x1 : (List tPoint)) (x2 : Int) (x3 : Int) : wHeldPointS_D2 (x1, (x2, (x3, ()))) = cnd (ilt x3 (len x1)) (cnd (inb x3 (len x1)) (cnd (ine (rd zPoint x1 x3).1 x2) (some (((-1 : Int), ()), ())) (cnd (inb x3 (len x1)) (cnd (ine (rd zPoint x1 x3).2.1 (iadd .i64 x2 (1 : Int))) (some (((-1 : Int), ()), ())) (cnd (inb x3 (len x1)) (cnd (nz (3 : Int)) (cnd (bneB (rd zPoint x1 x3).2.2.1 (ieq (irem (iadd .i64 (iadd .i64 x2 (1 : Int)) (1 : Int)) (3 : Int)) (0 : Int))) (some (((-1 : Int), ()), ())) (wHeldPointS_D2 (x1, ((iadd .i64 (iadd .i64 (iadd .i64 x2 (1 : Int)) (1 : Int)) (1 : Int)), ((iadd .i64 x3 (1 : Int)), ()))))) none) none)) none)) none) (some ((x2, ()), ())) := (FnD.eqC V wHeldPointS_c wHeldPointS_F 2 (x1, (x2, (x3, ())))).trans (by kernel_rfl)
theorem wHeldPointS_k : CallsOk Try.prog gls gvs 46 wHeldPointS_g := FnD.ok (F := wHeldPointS_F) (cs := wHeldPointS_c) V_ok kN Try.func46 (by decide) (by kernel_rfl)
-- laws.heldCommittee
noncomputable def wHeldCommittee_F : FnD := { f := 59, fn := Try.f59, ps := [pa TCommittee, pa (.int .i64)], rs := [rt (.int .i64)] }
noncomputable def wHeldCommittee_c : List (Nat × Sig) := [(46, wHeldPointS_g)]
noncomputable def wHeldCommittee_d : tCommittee × Int × Unit → Option ((Int × Unit) × Unit) := wHeldCommittee_F.d V wHeldCommittee_c
noncomputable abbrev wHeldCommittee_g : Sig := wHeldCommittee_F.t.sig wHeldCommittee_d
theorem wHeldCommittee_b (x1 : tCommittee) (x2 : Int) : wHeldCommittee_d (x1, (x2, ())) = bnd (wHeldPointS_d (x1.1, (x2, ()))) (fun r2 => (cnd (ilt r2.1.1 (0 : Int)) (some (((-1 : Int), ()), ())) (some ((r2.1.1, ()), ())))) := (FnD.eq V wHeldCommittee_c wHeldCommittee_F (x1, (x2, ()))).trans (by kernel_rfl)
theorem wHeldCommittee_k : CallsOk Try.prog gls gvs 59 wHeldCommittee_g := FnD.ok (F := wHeldCommittee_F) (cs := wHeldCommittee_c) V_ok (kC wHeldPointS_k kN) Try.func59 (by decide) (by kernel_rfl)
-- laws.heldKeys
noncomputable def wHeldKeys_F : FnD := { f := 45, fn := Try.f45, ps := [pa TKeys, pa (.int .i64)], rs := [rt (.int .i64)] }
noncomputable def wHeldKeys_c : List (Nat × Sig) := [(46, wHeldPointS_g)]
noncomputable def wHeldKeys_d : tKeys × Int × Unit → Option ((Int × Unit) × Unit) := wHeldKeys_F.d V wHeldKeys_c
noncomputable abbrev wHeldKeys_g : Sig := wHeldKeys_F.t.sig wHeldKeys_d
theorem wHeldKeys_b (x1 : tKeys) (x2 : Int) : wHeldKeys_d (x1, (x2, ())) = bnd (wHeldPointS_d (x1.2.2.2.2.1, (x2, ()))) (fun r2 => (cnd (ilt r2.1.1 (0 : Int)) (some (((-1 : Int), ()), ())) (some ((r2.1.1, ()), ())))) := (FnD.eq V wHeldKeys_c wHeldKeys_F (x1, (x2, ()))).trans (by kernel_rfl)
theorem wHeldKeys_k : CallsOk Try.prog gls gvs 45 wHeldKeys_g := FnD.ok (F := wHeldKeys_F) (cs := wHeldKeys_c) V_ok (kC wHeldPointS_k kN) Try.func45 (by decide) (by kernel_rfl)
-- laws.heldClient
noncomputable def wHeldClient_F : FnD := { f := 38, fn := Try.f38, ps := [pa TClient, pa (.int .i64)], rs := [rt (.int .i64)] }
noncomputable def wHeldClient_c : List (Nat × Sig) := [(59, wHeldCommittee_g), (45, wHeldKeys_g)]
noncomputable def wHeldClient_d : tClient × Int × Unit → Option ((Int × Unit) × Unit) := wHeldClient_F.d V wHeldClient_c
noncomputable abbrev wHeldClient_g : Sig := wHeldClient_F.t.sig wHeldClient_d
theorem wHeldClient_b (x1 : tClient) (x2 : Int) : wHeldClient_d (x1, (x2, ())) = bnd (wHeldCommittee_d (x1.2.1, (x2, ()))) (fun r2 => (cnd (ilt r2.1.1 (0 : Int)) (some (((-1 : Int), ()), ())) (bnd (wHeldCommittee_d (x1.2.2.1, (r2.1.1, ()))) (fun r3 => (cnd (ilt r3.1.1 (0 : Int)) (some (((-1 : Int), ()), ())) (bnd (wHeldKeys_d (x1.2.2.2.2.1, (r3.1.1, ()))) (fun r4 => (cnd (ilt r4.1.1 (0 : Int)) (some (((-1 : Int), ()), ())) (some ((r4.1.1, ()), ())))))))))) := (FnD.eq V wHeldClient_c wHeldClient_F (x1, (x2, ()))).trans (by kernel_rfl)
theorem wHeldClient_k : CallsOk Try.prog gls gvs 38 wHeldClient_g := FnD.ok (F := wHeldClient_F) (cs := wHeldClient_c) V_ok (kC wHeldCommittee_k (kC wHeldKeys_k kN)) Try.func38 (by decide) (by kernel_rfl)
-- laws.heldStringS
noncomputable def wHeldStringS_F : FnD := { f := 39, fn := Try.f39, ps := [pa (.sl .str), pa (.int .i64)], rs := [rt (.int .i64)], cuts := [(2, [.val 0 (.sl .str) .sh, .val 1 (.int .i64) .sh, .val 5 (.int .i64) .sh])] }
noncomputable def wHeldStringS_c : List (Nat × Sig) := [(58, wMarkText_g)]
noncomputable def wHeldStringS_d : (List ByteArray) × Int × Unit → Option ((Int × Unit) × Unit) := wHeldStringS_F.d V wHeldStringS_c
noncomputable abbrev wHeldStringS_g : Sig := wHeldStringS_F.t.sig wHeldStringS_d
noncomputable def wHeldStringS_D2 : (List ByteArray) × Int × Int × Unit → Option ((Int × Unit) × Unit) := wHeldStringS_F.D V wHeldStringS_c 2
theorem wHeldStringS_b (x1 : (List ByteArray)) (x2 : Int) : wHeldStringS_d (x1, (x2, ())) = wHeldStringS_D2 (x1, (x2, ((0 : Int), ()))) := (FnD.eq V wHeldStringS_c wHeldStringS_F (x1, (x2, ()))).trans (by kernel_rfl)
theorem wHeldStringS_q2 (x1 : (List ByteArray)) (x2 : Int) (x3 : Int) : wHeldStringS_D2 (x1, (x2, (x3, ()))) = cnd (ilt x3 (len x1)) (cnd (inb x3 (len x1)) (bnd (wMarkText_d (x2, ())) (fun r3 => (cnd (sne (rd (bs []) x1 x3) r3.1.1) (some (((-1 : Int), ()), ())) (wHeldStringS_D2 (x1, ((iadd .i64 x2 (1 : Int)), ((iadd .i64 x3 (1 : Int)), ()))))))) none) (some ((x2, ()), ())) := (FnD.eqC V wHeldStringS_c wHeldStringS_F 2 (x1, (x2, (x3, ())))).trans (by kernel_rfl)
theorem wHeldStringS_k : CallsOk Try.prog gls gvs 39 wHeldStringS_g := FnD.ok (F := wHeldStringS_F) (cs := wHeldStringS_c) V_ok (kC wMarkText_k kN) Try.func39 (by decide) (by kernel_rfl)
-- laws.heldBridge
noncomputable def wHeldBridge_F : FnD := { f := 13, fn := Try.f13, ps := [pa TBridge, pa (.int .i64)], rs := [rt (.int .i64)] }
noncomputable def wHeldBridge_c : List (Nat × Sig) := [(38, wHeldClient_g), (39, wHeldStringS_g)]
noncomputable def wHeldBridge_d : tBridge × Int × Unit → Option ((Int × Unit) × Unit) := wHeldBridge_F.d V wHeldBridge_c
noncomputable abbrev wHeldBridge_g : Sig := wHeldBridge_F.t.sig wHeldBridge_d
theorem wHeldBridge_b (x1 : tBridge) (x2 : Int) : wHeldBridge_d (x1, (x2, ())) = bnd (wHeldClient_d (x1.1, (x2, ()))) (fun r2 => (cnd (ilt r2.1.1 (0 : Int)) (some (((-1 : Int), ()), ())) (bnd (wHeldClient_d (x1.2.1, (r2.1.1, ()))) (fun r3 => (cnd (ilt r3.1.1 (0 : Int)) (some (((-1 : Int), ()), ())) (bnd (wHeldStringS_d (x1.2.2.2.2.1, (r3.1.1, ()))) (fun r4 => (cnd (ilt r4.1.1 (0 : Int)) (some (((-1 : Int), ()), ())) (some ((r4.1.1, ()), ())))))))))) := (FnD.eq V wHeldBridge_c wHeldBridge_F (x1, (x2, ()))).trans (by kernel_rfl)
theorem wHeldBridge_k : CallsOk Try.prog gls gvs 13 wHeldBridge_g := FnD.ok (F := wHeldBridge_F) (cs := wHeldBridge_c) V_ok (kC wHeldClient_k (kC wHeldStringS_k kN)) Try.func13 (by decide) (by kernel_rfl)
-- laws.FnExactBridgeNew
noncomputable def wFnExactBridgeNew_F : FnD := { f := 3, fn := Try.f3, ps := [pa TClient, pa (.int .i64)], rs := [rt .bool] }
noncomputable def wFnExactBridgeNew_c : List (Nat × Sig) := [(5, wSzClient_g), (7, wToClient_g), (6, sBridgeNew_g), (8, iBridgeNew_g), (9, wEqBridge_g), (10, wEqClient_g), (11, wMarkClient_g), (12, wMarkBridge_g), (13, wHeldBridge_g)]
noncomputable def wFnExactBridgeNew_d : tClient × Int × Unit → Option ((Bool × Unit) × Unit) := wFnExactBridgeNew_F.d V wFnExactBridgeNew_c
noncomputable abbrev wFnExactBridgeNew_g : Sig := wFnExactBridgeNew_F.t.sig wFnExactBridgeNew_d
theorem wFnExactBridgeNew_b (x1 : tClient) (x2 : Int) : wFnExactBridgeNew_d (x1, (x2, ())) = bnd (wSzClient_d (x1, ((1048576 : Int), ()))) (fun r2 => (cnd (ilt r2.1.1 (0 : Int)) (some ((true, ()), ())) (bnd (wToClient_d (x1, ())) (fun r3 => (bnd (sBridgeNew_d (r3.1.1, (x2, ()))) (fun r4 => (bnd (wToClient_d (x1, ())) (fun r5 => (bnd (iBridgeNew_d (r5.1.1, (x2, ()))) (fun r6 => (bnd (wEqBridge_d (r6.1.1, (r4.1.1, ()))) (fun r7 => (cnd (bnot r7.1.1) (some ((false, ()), ())) (cnd (bneB r6.1.2.1 r4.1.2.1) (some ((false, ()), ())) (bnd (wToClient_d (x1, ())) (fun r8 => (bnd (wEqClient_d (r5.1.1, (r8.1.1, ()))) (fun r9 => (cnd (bnot r9.1.1) (some ((false, ()), ())) (bnd (wMarkClient_d (r5.1.1, ((1 : Int), ()))) (fun r10 => (cnd (ilt r10.1.1 (0 : Int)) (some ((false, ()), ())) (bnd (wEqBridge_d (r6.1.1, (r4.1.1, ()))) (fun r11 => (cnd (bnot r11.1.1) (some ((false, ()), ())) (cnd (bneB r6.1.2.1 r4.1.2.1) (some ((false, ()), ())) (bnd (wMarkBridge_d (r6.1.1, ((1 : Int), ()))) (fun r12 => (bnd (wHeldBridge_d ((((r6.1.1.1.1.1, (r6.1.1.1.1.2.1, (r6.1.1.1.1.2.2.1, (r6.1.1.1.1.2.2.2.1, r6.1.1.1.1.2.2.2.2)))), ((r12.2.1.1.2.1.1, r6.1.1.1.2.1.2), ((r12.2.1.1.2.2.1.1, r6.1.1.1.2.2.1.2), (r6.1.1.1.2.2.2.1, (((r6.1.1.1.2.2.2.2.1.1.1, (r6.1.1.1.2.2.2.2.1.1.2.1, (r6.1.1.1.2.2.2.2.1.1.2.2.1, r6.1.1.1.2.2.2.2.1.1.2.2.2))), ((r6.1.1.1.2.2.2.2.1.2.1.1, (r6.1.1.1.2.2.2.2.1.2.1.2.1, (r6.1.1.1.2.2.2.2.1.2.1.2.2.1, r6.1.1.1.2.2.2.2.1.2.1.2.2.2))), ((r6.1.1.1.2.2.2.2.1.2.2.1.1, (r6.1.1.1.2.2.2.2.1.2.2.1.2.1, (r6.1.1.1.2.2.2.2.1.2.2.1.2.2.1, r6.1.1.1.2.2.2.2.1.2.2.1.2.2.2))), ((r6.1.1.1.2.2.2.2.1.2.2.2.1.1, (r6.1.1.1.2.2.2.2.1.2.2.2.1.2.1, (r6.1.1.1.2.2.2.2.1.2.2.2.1.2.2.1, r6.1.1.1.2.2.2.2.1.2.2.2.1.2.2.2))), (r12.2.1.1.2.2.2.2.1.2.2.2.2.1, r6.1.1.1.2.2.2.2.1.2.2.2.2.2))))), r6.1.1.1.2.2.2.2.2))))), (((r6.1.1.2.1.1.1, (r6.1.1.2.1.1.2.1, (r6.1.1.2.1.1.2.2.1, (r6.1.1.2.1.1.2.2.2.1, r6.1.1.2.1.1.2.2.2.2)))), ((r12.2.1.2.1.2.1.1, r6.1.1.2.1.2.1.2), ((r12.2.1.2.1.2.2.1.1, r6.1.1.2.1.2.2.1.2), (r6.1.1.2.1.2.2.2.1, (((r6.1.1.2.1.2.2.2.2.1.1.1, (r6.1.1.2.1.2.2.2.2.1.1.2.1, (r6.1.1.2.1.2.2.2.2.1.1.2.2.1, r6.1.1.2.1.2.2.2.2.1.1.2.2.2))), ((r6.1.1.2.1.2.2.2.2.1.2.1.1, (r6.1.1.2.1.2.2.2.2.1.2.1.2.1, (r6.1.1.2.1.2.2.2.2.1.2.1.2.2.1, r6.1.1.2.1.2.2.2.2.1.2.1.2.2.2))), ((r6.1.1.2.1.2.2.2.2.1.2.2.1.1, (r6.1.1.2.1.2.2.2.2.1.2.2.1.2.1, (r6.1.1.2.1.2.2.2.2.1.2.2.1.2.2.1, r6.1.1.2.1.2.2.2.2.1.2.2.1.2.2.2))), ((r6.1.1.2.1.2.2.2.2.1.2.2.2.1.1, (r6.1.1.2.1.2.2.2.2.1.2.2.2.1.2.1, (r6.1.1.2.1.2.2.2.2.1.2.2.2.1.2.2.1, r6.1.1.2.1.2.2.2.2.1.2.2.2.1.2.2.2))), (r12.2.1.2.1.2.2.2.2.1.2.2.2.2.1, r6.1.1.2.1.2.2.2.2.1.2.2.2.2.2))))), r6.1.1.2.1.2.2.2.2.2))))), (r6.1.1.2.2.1, (r6.1.1.2.2.2.1, (r12.2.1.2.2.2.2.1, (r6.1.1.2.2.2.2.2.1, r6.1.1.2.2.2.2.2.2)))))), ((1 : Int), ()))) (fun r13 => (cnd (ilt r13.1.1 (0 : Int)) (some ((false, ()), ())) (cnd (ine r13.1.1 r12.1.1) (some ((false, ()), ())) (bnd (wToClient_d (x1, ())) (fun r14 => (bnd (iBridgeNew_d (r14.1.1, (x2, ()))) (fun r15 => (bnd (wEqBridge_d (r15.1.1, (r4.1.1, ()))) (fun r16 => (cnd (bnot r16.1.1) (some ((false, ()), ())) (cnd (bneB r15.1.2.1 r4.1.2.1) (some ((false, ()), ())) (bnd (wHeldBridge_d ((((r6.1.1.1.1.1, (r6.1.1.1.1.2.1, (r6.1.1.1.1.2.2.1, (r6.1.1.1.1.2.2.2.1, r6.1.1.1.1.2.2.2.2)))), ((r12.2.1.1.2.1.1, r6.1.1.1.2.1.2), ((r12.2.1.1.2.2.1.1, r6.1.1.1.2.2.1.2), (r6.1.1.1.2.2.2.1, (((r6.1.1.1.2.2.2.2.1.1.1, (r6.1.1.1.2.2.2.2.1.1.2.1, (r6.1.1.1.2.2.2.2.1.1.2.2.1, r6.1.1.1.2.2.2.2.1.1.2.2.2))), ((r6.1.1.1.2.2.2.2.1.2.1.1, (r6.1.1.1.2.2.2.2.1.2.1.2.1, (r6.1.1.1.2.2.2.2.1.2.1.2.2.1, r6.1.1.1.2.2.2.2.1.2.1.2.2.2))), ((r6.1.1.1.2.2.2.2.1.2.2.1.1, (r6.1.1.1.2.2.2.2.1.2.2.1.2.1, (r6.1.1.1.2.2.2.2.1.2.2.1.2.2.1, r6.1.1.1.2.2.2.2.1.2.2.1.2.2.2))), ((r6.1.1.1.2.2.2.2.1.2.2.2.1.1, (r6.1.1.1.2.2.2.2.1.2.2.2.1.2.1, (r6.1.1.1.2.2.2.2.1.2.2.2.1.2.2.1, r6.1.1.1.2.2.2.2.1.2.2.2.1.2.2.2))), (r12.2.1.1.2.2.2.2.1.2.2.2.2.1, r6.1.1.1.2.2.2.2.1.2.2.2.2.2))))), r6.1.1.1.2.2.2.2.2))))), (((r6.1.1.2.1.1.1, (r6.1.1.2.1.1.2.1, (r6.1.1.2.1.1.2.2.1, (r6.1.1.2.1.1.2.2.2.1, r6.1.1.2.1.1.2.2.2.2)))), ((r12.2.1.2.1.2.1.1, r6.1.1.2.1.2.1.2), ((r12.2.1.2.1.2.2.1.1, r6.1.1.2.1.2.2.1.2), (r6.1.1.2.1.2.2.2.1, (((r6.1.1.2.1.2.2.2.2.1.1.1, (r6.1.1.2.1.2.2.2.2.1.1.2.1, (r6.1.1.2.1.2.2.2.2.1.1.2.2.1, r6.1.1.2.1.2.2.2.2.1.1.2.2.2))), ((r6.1.1.2.1.2.2.2.2.1.2.1.1, (r6.1.1.2.1.2.2.2.2.1.2.1.2.1, (r6.1.1.2.1.2.2.2.2.1.2.1.2.2.1, r6.1.1.2.1.2.2.2.2.1.2.1.2.2.2))), ((r6.1.1.2.1.2.2.2.2.1.2.2.1.1, (r6.1.1.2.1.2.2.2.2.1.2.2.1.2.1, (r6.1.1.2.1.2.2.2.2.1.2.2.1.2.2.1, r6.1.1.2.1.2.2.2.2.1.2.2.1.2.2.2))), ((r6.1.1.2.1.2.2.2.2.1.2.2.2.1.1, (r6.1.1.2.1.2.2.2.2.1.2.2.2.1.2.1, (r6.1.1.2.1.2.2.2.2.1.2.2.2.1.2.2.1, r6.1.1.2.1.2.2.2.2.1.2.2.2.1.2.2.2))), (r12.2.1.2.1.2.2.2.2.1.2.2.2.2.1, r6.1.1.2.1.2.2.2.2.1.2.2.2.2.2))))), r6.1.1.2.1.2.2.2.2.2))))), (r6.1.1.2.2.1, (r6.1.1.2.2.2.1, (r12.2.1.2.2.2.2.1, (r6.1.1.2.2.2.2.2.1, r6.1.1.2.2.2.2.2.2)))))), ((1 : Int), ()))) (fun r17 => (cnd (ilt r17.1.1 (0 : Int)) (some ((false, ()), ())) (cnd (ine r17.1.1 r12.1.1) (some ((false, ()), ())) (some ((true, ()), ())))))))))))))))))))))))))))))))))))))))))))))) := (FnD.eq V wFnExactBridgeNew_c wFnExactBridgeNew_F (x1, (x2, ()))).trans (by kernel_rfl)
theorem wFnExactBridgeNew_k : CallsOk Try.prog gls gvs 3 wFnExactBridgeNew_g := FnD.ok (F := wFnExactBridgeNew_F) (cs := wFnExactBridgeNew_c) V_ok (kC wSzClient_k (kC wToClient_k (kC sBridgeNew_k (kC iBridgeNew_k (kC wEqBridge_k (kC wEqClient_k (kC wMarkClient_k (kC wMarkBridge_k (kC wHeldBridge_k kN))))))))) Try.func3 (by decide) (by kernel_rfl)
-- spec.l13Row
noncomputable def sL13Row_F : FnD := { f := 83, fn := Try.f83, ps := [pa (.int .i64)], rs := [⟨TRow, (.pr (.own 0 .sh) (.pr (.own 0 .sh) (.pr (.own 0 .sh) .sh))), false⟩] }
noncomputable def sL13Row_c : List (Nat × Sig) := []
noncomputable def sL13Row_d : Int × Unit → Option ((tRow × Unit) × Unit) := sL13Row_F.d V sL13Row_c
noncomputable abbrev sL13Row_g : Sig := sL13Row_F.t.sig sL13Row_d
theorem sL13Row_b (x1 : Int) : sL13Row_d (x1, ()) = cnd (both (inb2 (0 : Int) x1 x1) (fits x1 1)) none none := (FnD.eq V sL13Row_c sL13Row_F (x1, ())).trans (by kernel_rfl)
theorem sL13Row_k : CallsOk Try.prog gls gvs 83 sL13Row_g := FnD.ok (F := sL13Row_F) (cs := sL13Row_c) V_ok kN Try.func83 (by decide) (by kernel_rfl)
-- spec.CountSystem
noncomputable def sCountSystem_F : FnD := { f := 61, fn := Try.f61, ps := [], rs := [⟨TSystem, (.pr .sh (.pr .sh (.pr (.own 0 (.pr (.own 0 .sh) (.pr (.own 0 .sh) (.pr (.own 0 .sh) .sh)))) .sh))), false⟩], cuts := [(4, [.val 1 (.int .i64) .sh, .val 3 (.int .i64) .sh, .box 0 TSystem (.pr .sh (.pr .sh (.pr (.own 0 (.pr (.own 0 .sh) (.pr (.own 0 .sh) (.pr (.own 0 .sh) .sh)))) .sh))), .box 2 TSystem (.pr .sh (.pr .sh (.pr (.own 0 (.pr (.own 0 .sh) (.pr (.own 0 .sh) (.pr (.own 0 .sh) .sh)))) .sh))), .ptr 0 0 0, .ptr 2 2 0]), (16, [.val 7 (.int .i64) .sh, .box 0 TSystem (.pr .sh (.pr .sh (.pr (.own 0 (.pr (.own 0 .sh) (.pr (.own 0 .sh) (.pr (.own 0 .sh) .sh)))) .sh))), .box 2 TSystem (.pr .sh (.pr .sh (.pr (.own 0 (.pr (.own 0 .sh) (.pr (.own 0 .sh) (.pr (.own 0 .sh) .sh)))) .sh))), .box 5 TRow (.pr (.own 0 .sh) (.pr (.own 0 .sh) (.pr (.own 0 .sh) .sh))), .box 6 TRow (.pr (.own 0 .sh) (.pr (.own 0 .sh) (.pr (.own 0 .sh) .sh))), .ptr 0 0 0, .ptr 2 2 0, .ptr 5 5 0, .ptr 6 6 0])] }
noncomputable def sCountSystem_c : List (Nat × Sig) := [(83, sL13Row_g)]
noncomputable def sCountSystem_d : Unit → Option ((tSystem × Unit) × Unit) := sCountSystem_F.d V sCountSystem_c
noncomputable abbrev sCountSystem_g : Sig := sCountSystem_F.t.sig sCountSystem_d
noncomputable def sCountSystem_D4 : Int × Int × tSystem × tSystem × Unit → Option ((tSystem × Unit) × Unit) := sCountSystem_F.D V sCountSystem_c 4
noncomputable def sCountSystem_D16 : Int × tSystem × tSystem × tRow × tRow × Unit → Option ((tSystem × Unit) × Unit) := sCountSystem_F.D V sCountSystem_c 16
theorem sCountSystem_b : sCountSystem_d () = sCountSystem_D4 ((11 : Int), ((0 : Int), (zSystem, (((11 : Int), ((2 : Int), (([] : List tRow), ()))), ())))) := (FnD.eq V sCountSystem_c sCountSystem_F ()).trans (by kernel_rfl)
theorem sCountSystem_q4 (x1 : Int) (x2 : Int) (x3 : tSystem) (x4 : tSystem) : sCountSystem_D4 (x1, (x2, (x3, (x4, ())))) = cnd (ilt x2 (8 : Int)) (bnd (sL13Row_d (x1, ())) (fun r4 => (cnd (inb (iadd .i64 (3 : Int) x2) (len r4.1.1.1)) (cnd (inb (iadd .i64 (3 : Int) x2) (len r4.1.1.2.1)) (cnd (inb (iadd .i64 (3 : Int) x2) (len r4.1.1.2.2.1)) (cnd (fits ((len x4.2.2.1) + (len (((upd r4.1.1.1 (iadd .i64 (3 : Int) x2) (1 : Int)), ((upd r4.1.1.2.1 (iadd .i64 (3 : Int) x2) (1 : Int)), ((upd r4.1.1.2.2.1 (iadd .i64 (3 : Int) x2) (1 : Int)), r4.1.1.2.2.2))) :: ([] : List tRow)))) 3) (sCountSystem_D4 (x1, ((iadd .i64 x2 (1 : Int)), (x3, ((x4.1, (x4.2.1, ((app x4.2.2.1 (((upd r4.1.1.1 (iadd .i64 (3 : Int) x2) (1 : Int)), ((upd r4.1.1.2.1 (iadd .i64 (3 : Int) x2) (1 : Int)), ((upd r4.1.1.2.2.1 (iadd .i64 (3 : Int) x2) (1 : Int)), r4.1.1.2.2.2))) :: ([] : List tRow))), x4.2.2.2))), ()))))) none) none) none) none))) (bnd (sL13Row_d (x1, ())) (fun r4 => (bnd (sL13Row_d (x1, ())) (fun r5 => (cnd (inb (0 : Int) (len r4.1.1.1)) (cnd (inb (0 : Int) (len r5.1.1.1)) (sCountSystem_D16 ((0 : Int), (x3, (x4, (((upd r4.1.1.1 (0 : Int) (1 : Int)), r4.1.1.2), (((upd r5.1.1.1 (0 : Int) (1 : Int)), r5.1.1.2), ())))))) none) none))))) := (FnD.eqC V sCountSystem_c sCountSystem_F 4 (x1, (x2, (x3, (x4, ()))))).trans (by kernel_rfl)
theorem sCountSystem_q16 (x1 : Int) (x2 : tSystem) (x3 : tSystem) (x4 : tRow) (x5 : tRow) : sCountSystem_D16 (x1, (x2, (x3, (x4, (x5, ()))))) = cnd (ilt x1 (8 : Int)) (cnd (nn (iconv .u64 x1)) (cnd (inb (iadd .i64 (3 : Int) x1) (len x4.2.1)) (cnd (inb (iadd .i64 (3 : Int) x1) (len x5.2.1)) (sCountSystem_D16 ((iadd .i64 x1 (1 : Int)), (x2, (x3, ((x4.1, ((upd x4.2.1 (iadd .i64 (3 : Int) x1) (ishl .i64 (1 : Int) (iconv .u64 x1))), x4.2.2)), ((x5.1, ((upd x5.2.1 (iadd .i64 (3 : Int) x1) (1 : Int)), x5.2.2)), ())))))) none) none) none) (cnd (inb (1 : Int) (len x4.2.2.1)) (cnd (inb (2 : Int) (len x5.2.2.1)) (cnd (fits ((len x3.2.2.1) + (len ((x4.1, (x4.2.1, ((upd x4.2.2.1 (1 : Int) (1 : Int)), x4.2.2.2))) :: ((x5.1, (x5.2.1, ((upd x5.2.2.1 (2 : Int) (1 : Int)), x5.2.2.2))) :: ([] : List tRow))))) 3) (some (((x3.1, (x3.2.1, ((app x3.2.2.1 ((x4.1, (x4.2.1, ((upd x4.2.2.1 (1 : Int) (1 : Int)), x4.2.2.2))) :: ((x5.1, (x5.2.1, ((upd x5.2.2.1 (2 : Int) (1 : Int)), x5.2.2.2))) :: ([] : List tRow)))), x3.2.2.2))), ()), ())) none) none) none) := (FnD.eqC V sCountSystem_c sCountSystem_F 16 (x1, (x2, (x3, (x4, (x5, ())))))).trans (by kernel_rfl)
theorem sCountSystem_k : CallsOk Try.prog gls gvs 61 sCountSystem_g := FnD.ok (F := sCountSystem_F) (cs := sCountSystem_c) V_ok (kC sL13Row_k kN) Try.func61 (by decide) (by kernel_rfl)
-- spec.l13Wide
noncomputable def sL13Wide_F : FnD := { f := 118, fn := Try.f118, ps := [pa (.sl (.int .i64)), pa (.int .i64)], rs := [rt .bool], cuts := [(2, [.val 0 (.sl (.int .i64)) .sh, .val 1 (.int .i64) .sh, .val 5 (.int .i64) .sh])] }
noncomputable def sL13Wide_c : List (Nat × Sig) := [(23, sL01In_g)]
noncomputable def sL13Wide_d : (List Int) × Int × Unit → Option ((Bool × Unit) × Unit) := sL13Wide_F.d V sL13Wide_c
noncomputable abbrev sL13Wide_g : Sig := sL13Wide_F.t.sig sL13Wide_d
noncomputable def sL13Wide_D2 : (List Int) × Int × Int × Unit → Option ((Bool × Unit) × Unit) := sL13Wide_F.D V sL13Wide_c 2
theorem sL13Wide_b (x1 : (List Int)) (x2 : Int) : sL13Wide_d (x1, (x2, ())) = sL13Wide_D2 (x1, (x2, ((0 : Int), ()))) := (FnD.eq V sL13Wide_c sL13Wide_F (x1, (x2, ()))).trans (by kernel_rfl)
theorem sL13Wide_q2 (x1 : (List Int)) (x2 : Int) (x3 : Int) : sL13Wide_D2 (x1, (x2, (x3, ()))) = cnd (ilt x3 (len x1)) (cnd (inb x3 (len x1)) (bnd (sL01In_d ((rd (0 : Int) x1 x3), ((0 : Int), ((1008 : Int), ())))) (fun r3 => (cnd (bnot r3.1.1) (some ((false, ()), ())) (sL13Wide_D2 (x1, (x2, ((iadd .i64 x3 (1 : Int)), ()))))))) none) (some (((ieq (len x1) x2), ()), ())) := (FnD.eqC V sL13Wide_c sL13Wide_F 2 (x1, (x2, (x3, ())))).trans (by kernel_rfl)
theorem sL13Wide_k : CallsOk Try.prog gls gvs 118 sL13Wide_g := FnD.ok (F := sL13Wide_F) (cs := sL13Wide_c) V_ok (kC sL01In_k kN) Try.func118 (by decide) (by kernel_rfl)
-- spec.SystemOk
noncomputable def sSystemOk_F : FnD := { f := 96, fn := Try.f96, ps := [pa TSystem], rs := [rt .bool], cuts := [(4, [.val 3 (.int .i64) .sh, .box 1 TSystem .sh, .ptr 1 1 0])] }
noncomputable def sSystemOk_c : List (Nat × Sig) := [(23, sL01In_g), (118, sL13Wide_g)]
noncomputable def sSystemOk_d : tSystem × Unit → Option ((Bool × Unit) × Unit) := sSystemOk_F.d V sSystemOk_c
noncomputable abbrev sSystemOk_g : Sig := sSystemOk_F.t.sig sSystemOk_d
noncomputable def sSystemOk_D4 : Int × tSystem × Unit → Option ((Bool × Unit) × Unit) := sSystemOk_F.D V sSystemOk_c 4
theorem sSystemOk_b (x1 : tSystem) : sSystemOk_d (x1, ()) = bnd (sL01In_d (x1.1, ((1 : Int), ((20 : Int), ())))) (fun r1 => (cnd (bnot r1.1.1) (some ((false, ()), ())) (bnd (sL01In_d (x1.2.1, ((0 : Int), ((isub .i64 x1.1 (1 : Int)), ())))) (fun r2 => (cnd (bnot r2.1.1) (some ((false, ()), ())) (bnd (sL01In_d ((len x1.2.2.1), ((1 : Int), ((16 : Int), ())))) (fun r3 => (cnd (bnot r3.1.1) (some ((false, ()), ())) (sSystemOk_D4 ((0 : Int), (x1, ()))))))))))) := (FnD.eq V sSystemOk_c sSystemOk_F (x1, ())).trans (by kernel_rfl)
theorem sSystemOk_q4 (x1 : Int) (x2 : tSystem) : sSystemOk_D4 (x1, (x2, ())) = cnd (ilt x1 (len x2.2.2.1)) (cnd (inb x1 (len x2.2.2.1)) (bnd (sL13Wide_d ((rd zRow x2.2.2.1 x1).1, (x2.1, ()))) (fun r2 => (cnd (bnot r2.1.1) (some ((false, ()), ())) (cnd (inb x1 (len x2.2.2.1)) (bnd (sL13Wide_d ((rd zRow x2.2.2.1 x1).2.1, (x2.1, ()))) (fun r3 => (cnd (bnot r3.1.1) (some ((false, ()), ())) (cnd (inb x1 (len x2.2.2.1)) (bnd (sL13Wide_d ((rd zRow x2.2.2.1 x1).2.2.1, (x2.1, ()))) (fun r4 => (cnd (bnot r4.1.1) (some ((false, ()), ())) (sSystemOk_D4 ((iadd .i64 x1 (1 : Int)), (x2, ())))))) none)))) none)))) none) (some ((true, ()), ())) := (FnD.eqC V sSystemOk_c sSystemOk_F 4 (x1, (x2, ()))).trans (by kernel_rfl)
theorem sSystemOk_k : CallsOk Try.prog gls gvs 96 sSystemOk_g := FnD.ok (F := sSystemOk_F) (cs := sSystemOk_c) V_ok (kC sL01In_k (kC sL13Wide_k kN)) Try.func96 (by decide) (by kernel_rfl)
-- spec.l16Scalar
noncomputable def sL16Scalar_F : FnD := { f := 97, fn := Try.f97, ps := [pa (.int .i64)], rs := [rt .bool] }
noncomputable def sL16Scalar_c : List (Nat × Sig) := [(23, sL01In_g)]
noncomputable def sL16Scalar_d : Int × Unit → Option ((Bool × Unit) × Unit) := sL16Scalar_F.d V sL16Scalar_c
noncomputable abbrev sL16Scalar_g : Sig := sL16Scalar_F.t.sig sL16Scalar_d
theorem sL16Scalar_b (x1 : Int) : sL16Scalar_d (x1, ()) = bnd (sL01In_d (x1, ((1 : Int), ((1008 : Int), ())))) (fun r1 => (some ((r1.1.1, ()), ()))) := (FnD.eq V sL16Scalar_c sL16Scalar_F (x1, ())).trans (by kernel_rfl)
theorem sL16Scalar_k : CallsOk Try.prog gls gvs 97 sL16Scalar_g := FnD.ok (F := sL16Scalar_F) (cs := sL16Scalar_c) V_ok (kC sL01In_k kN) Try.func97 (by decide) (by kernel_rfl)
-- spec.ToxicOk
noncomputable def sToxicOk_F : FnD := { f := 75, fn := Try.f75, ps := [pa TSystem, pa TToxic], rs := [rt .bool] }
noncomputable def sToxicOk_c : List (Nat × Sig) := [(96, sSystemOk_g), (97, sL16Scalar_g)]
noncomputable def sToxicOk_d : tSystem × tToxic × Unit → Option ((Bool × Unit) × Unit) := sToxicOk_F.d V sToxicOk_c
noncomputable abbrev sToxicOk_g : Sig := sToxicOk_F.t.sig sToxicOk_d
theorem sToxicOk_b (x1 : tSystem) (x2 : tToxic) : sToxicOk_d (x1, (x2, ())) = bnd (sSystemOk_d (x1, ())) (fun r2 => (cnd r2.1.1 (bnd (sL16Scalar_d (x2.1, ())) (fun r3 => (cnd r3.1.1 (bnd (sL16Scalar_d (x2.2.1, ())) (fun r4 => (cnd r4.1.1 (bnd (sL16Scalar_d (x2.2.2.1, ())) (fun r5 => (cnd r5.1.1 (bnd (sL16Scalar_d (x2.2.2.2.1, ())) (fun r6 => (cnd r6.1.1 (bnd (sL16Scalar_d (x2.2.2.2.2.1, ())) (fun r7 => (cnd r7.1.1 (some (((igt x2.1 (len x1.2.2.1)), ()), ())) (some ((false, ()), ()))))) (some ((false, ()), ()))))) (some ((false, ()), ()))))) (some ((false, ()), ()))))) (some ((false, ()), ()))))) (some ((false, ()), ())))) := (FnD.eq V sToxicOk_c sToxicOk_F (x1, (x2, ()))).trans (by kernel_rfl)
theorem sToxicOk_k : CallsOk Try.prog gls gvs 75 sToxicOk_g := FnD.ok (F := sToxicOk_F) (cs := sToxicOk_c) V_ok (kC sSystemOk_k (kC sL16Scalar_k kN)) Try.func75 (by decide) (by kernel_rfl)
-- spec.ScOf
noncomputable def sScOf_F : FnD := { f := 99, fn := Try.f99, ps := [pa (.int .i64)], rs := [rt (.int .i64)] }
noncomputable def sScOf_c : List (Nat × Sig) := []
noncomputable def sScOf_d : Int × Unit → Option ((Int × Unit) × Unit) := sScOf_F.d V sScOf_c
noncomputable abbrev sScOf_g : Sig := sScOf_F.t.sig sScOf_d
theorem sScOf_b (x1 : Int) : sScOf_d (x1, ()) = cnd (nz (1009 : Int)) (cnd (ilt (irem x1 (1009 : Int)) (0 : Int)) (some (((iadd .i64 (irem x1 (1009 : Int)) (1009 : Int)), ()), ())) (some (((irem x1 (1009 : Int)), ()), ()))) none := (FnD.eq V sScOf_c sScOf_F (x1, ())).trans (by kernel_rfl)
theorem sScOf_k : CallsOk Try.prog gls gvs 99 sScOf_g := FnD.ok (F := sScOf_F) (cs := sScOf_c) V_ok kN Try.func99 (by decide) (by kernel_rfl)
-- spec.ScMul
noncomputable def sScMul_F : FnD := { f := 79, fn := Try.f79, ps := [pa (.int .i64), pa (.int .i64)], rs := [rt (.int .i64)] }
noncomputable def sScMul_c : List (Nat × Sig) := [(99, sScOf_g)]
noncomputable def sScMul_d : Int × Int × Unit → Option ((Int × Unit) × Unit) := sScMul_F.d V sScMul_c
noncomputable abbrev sScMul_g : Sig := sScMul_F.t.sig sScMul_d
theorem sScMul_b (x1 : Int) (x2 : Int) : sScMul_d (x1, (x2, ())) = bnd (sScOf_d (x1, ())) (fun r2 => (bnd (sScOf_d (x2, ())) (fun r3 => (bnd (sScOf_d ((imul .i64 r2.1.1 r3.1.1), ())) (fun r4 => (some ((r4.1.1, ()), ()))))))) := (FnD.eq V sScMul_c sScMul_F (x1, (x2, ()))).trans (by kernel_rfl)
theorem sScMul_k : CallsOk Try.prog gls gvs 79 sScMul_g := FnD.ok (F := sScMul_F) (cs := sScMul_c) V_ok (kC sScOf_k kN) Try.func79 (by decide) (by kernel_rfl)
-- spec.ScAdd
noncomputable def sScAdd_F : FnD := { f := 101, fn := Try.f101, ps := [pa (.int .i64), pa (.int .i64)], rs := [rt (.int .i64)] }
noncomputable def sScAdd_c : List (Nat × Sig) := [(99, sScOf_g)]
noncomputable def sScAdd_d : Int × Int × Unit → Option ((Int × Unit) × Unit) := sScAdd_F.d V sScAdd_c
noncomputable abbrev sScAdd_g : Sig := sScAdd_F.t.sig sScAdd_d
theorem sScAdd_b (x1 : Int) (x2 : Int) : sScAdd_d (x1, (x2, ())) = bnd (sScOf_d (x1, ())) (fun r2 => (bnd (sScOf_d (x2, ())) (fun r3 => (bnd (sScOf_d ((iadd .i64 r2.1.1 r3.1.1), ())) (fun r4 => (some ((r4.1.1, ()), ()))))))) := (FnD.eq V sScAdd_c sScAdd_F (x1, (x2, ()))).trans (by kernel_rfl)
theorem sScAdd_k : CallsOk Try.prog gls gvs 101 sScAdd_g := FnD.ok (F := sScAdd_F) (cs := sScAdd_c) V_ok (kC sScOf_k kN) Try.func101 (by decide) (by kernel_rfl)
-- spec.PolyTrim
noncomputable def sPolyTrim_F : FnD := { f := 121, fn := Try.f121, ps := [pa (.sl (.int .i64))], rs := [⟨(.sl (.int .i64)), (.own 0 .sh), false⟩], cuts := [(3, [.val 0 (.sl (.int .i64)) .sh, .val 3 (.sl (.int .i64)) (.own 0 .sh), .val 4 (.int .i64) .sh]), (6, [.val 3 (.sl (.int .i64)) (.own 0 .sh)])] }
noncomputable def sPolyTrim_c : List (Nat × Sig) := [(99, sScOf_g)]
noncomputable def sPolyTrim_d : (List Int) × Unit → Option (((List Int) × Unit) × Unit) := sPolyTrim_F.d V sPolyTrim_c
noncomputable abbrev sPolyTrim_g : Sig := sPolyTrim_F.t.sig sPolyTrim_d
noncomputable def sPolyTrim_D3 : (List Int) × (List Int) × Int × Unit → Option (((List Int) × Unit) × Unit) := sPolyTrim_F.D V sPolyTrim_c 3
noncomputable def sPolyTrim_D6 : (List Int) × Unit → Option (((List Int) × Unit) × Unit) := sPolyTrim_F.D V sPolyTrim_c 6
theorem sPolyTrim_b (x1 : (List Int)) : sPolyTrim_d (x1, ()) = sPolyTrim_D3 (x1, (([] : List Int), ((0 : Int), ()))) := (FnD.eq V sPolyTrim_c sPolyTrim_F (x1, ())).trans (by kernel_rfl)
theorem sPolyTrim_q3 (x1 : (List Int)) (x2 : (List Int)) (x3 : Int) : sPolyTrim_D3 (x1, (x2, (x3, ()))) = cnd (ilt x3 (len x1)) (cnd (inb x3 (len x1)) (bnd (sScOf_d ((rd (0 : Int) x1 x3), ())) (fun r3 => (cnd (fits ((len x2) + (len (r3.1.1 :: ([] : List Int)))) 1) (sPolyTrim_D3 (x1, ((app x2 (r3.1.1 :: ([] : List Int))), ((iadd .i64 x3 (1 : Int)), ())))) none))) none) (sPolyTrim_D6 (x2, ())) := (FnD.eqC V sPolyTrim_c sPolyTrim_F 3 (x1, (x2, (x3, ())))).trans (by kernel_rfl)
theorem sPolyTrim_q6 (x1 : (List Int)) : sPolyTrim_D6 (x1, ()) = cnd (igt (len x1) (0 : Int)) (cnd (inb (isub .i64 (len x1) (1 : Int)) (len x1)) (cnd (ieq (rd (0 : Int) x1 (isub .i64 (len x1) (1 : Int))) (0 : Int)) (cnd (inb2 (0 : Int) (isub .i64 (len x1) (1 : Int)) (len x1)) (sPolyTrim_D6 ((sub x1 (0 : Int) (isub .i64 (len x1) (1 : Int))), ())) none) (some ((x1, ()), ()))) none) (some ((x1, ()), ())) := (FnD.eqC V sPolyTrim_c sPolyTrim_F 6 (x1, ())).trans (by kernel_rfl)
theorem sPolyTrim_k : CallsOk Try.prog gls gvs 121 sPolyTrim_g := FnD.ok (F := sPolyTrim_F) (cs := sPolyTrim_c) V_ok (kC sScOf_k kN) Try.func121 (by decide) (by kernel_rfl)
-- spec.PolyMul
noncomputable def sPolyMul_F : FnD := { f := 102, fn := Try.f102, ps := [pa (.sl (.int .i64)), pa (.sl (.int .i64))], rs := [⟨(.sl (.int .i64)), (.own 0 .sh), false⟩], cuts := [(8, [.val 0 (.sl (.int .i64)) .sh, .val 1 (.sl (.int .i64)) .sh, .val 5 (.sl (.int .i64)) (.own 0 .sh), .val 6 (.int .i64) .sh, .val 7 (.int .i64) .sh]), (5, [.val 0 (.sl (.int .i64)) .sh, .val 1 (.sl (.int .i64)) .sh, .val 5 (.sl (.int .i64)) (.own 0 .sh), .val 6 (.int .i64) .sh])] }
noncomputable def sPolyMul_c : List (Nat × Sig) := [(79, sScMul_g), (101, sScAdd_g), (121, sPolyTrim_g)]
noncomputable def sPolyMul_d : (List Int) × (List Int) × Unit → Option (((List Int) × Unit) × Unit) := sPolyMul_F.d V sPolyMul_c
noncomputable abbrev sPolyMul_g : Sig := sPolyMul_F.t.sig sPolyMul_d
noncomputable def sPolyMul_D8 : (List Int) × (List Int) × (List Int) × Int × Int × Unit → Option (((List Int) × Unit) × Unit) := sPolyMul_F.D V sPolyMul_c 8
noncomputable def sPolyMul_D5 : (List Int) × (List Int) × (List Int) × Int × Unit → Option (((List Int) × Unit) × Unit) := sPolyMul_F.D V sPolyMul_c 5
theorem sPolyMul_b (x1 : (List Int)) (x2 : (List Int)) : sPolyMul_d (x1, (x2, ())) = cnd (ieq (len x1) (0 : Int)) (some ((([] : List Int), ()), ())) (cnd (ieq (len x2) (0 : Int)) (some ((([] : List Int), ()), ())) (cnd (igt (len x1) (64 : Int)) (some ((([] : List Int), ()), ())) (cnd (igt (len x2) (64 : Int)) (some ((([] : List Int), ()), ())) (cnd (both (inb2 (0 : Int) (isub .i64 (iadd .i64 (len x1) (len x2)) (1 : Int)) (isub .i64 (iadd .i64 (len x1) (len x2)) (1 : Int))) (fits (isub .i64 (iadd .i64 (len x1) (len x2)) (1 : Int)) 1)) (sPolyMul_D5 (x1, (x2, ((rep (isub .i64 (iadd .i64 (len x1) (len x2)) (1 : Int)) (0 : Int)), ((0 : Int), ()))))) none)))) := (FnD.eq V sPolyMul_c sPolyMul_F (x1, (x2, ()))).trans (by kernel_rfl)
theorem sPolyMul_q8 (x1 : (List Int)) (x2 : (List Int)) (x3 : (List Int)) (x4 : Int) (x5 : Int) : sPolyMul_D8 (x1, (x2, (x3, (x4, (x5, ()))))) = cnd (ilt x5 (len x2)) (cnd (inb (iadd .i64 x4 x5) (len x3)) (cnd (inb x4 (len x1)) (cnd (inb x5 (len x2)) (bnd (sScMul_d ((rd (0 : Int) x1 x4), ((rd (0 : Int) x2 x5), ()))) (fun r5 => (bnd (sScAdd_d ((rd (0 : Int) x3 (iadd .i64 x4 x5)), (r5.1.1, ()))) (fun r6 => (cnd (inb (iadd .i64 x4 x5) (len x3)) (sPolyMul_D8 (x1, (x2, ((upd x3 (iadd .i64 x4 x5) r6.1.1), (x4, ((iadd .i64 x5 (1 : Int)), ())))))) none))))) none) none) none) (sPolyMul_D5 (x1, (x2, (x3, ((iadd .i64 x4 (1 : Int)), ()))))) := (FnD.eqC V sPolyMul_c sPolyMul_F 8 (x1, (x2, (x3, (x4, (x5, ())))))).trans (by kernel_rfl)
theorem sPolyMul_q5 (x1 : (List Int)) (x2 : (List Int)) (x3 : (List Int)) (x4 : Int) : sPolyMul_D5 (x1, (x2, (x3, (x4, ())))) = cnd (ilt x4 (len x1)) (sPolyMul_D8 (x1, (x2, (x3, (x4, ((0 : Int), ())))))) (bnd (sPolyTrim_d (x3, ())) (fun r4 => (some ((r4.1.1, ()), ())))) := (FnD.eqC V sPolyMul_c sPolyMul_F 5 (x1, (x2, (x3, (x4, ()))))).trans (by kernel_rfl)
theorem sPolyMul_k : CallsOk Try.prog gls gvs 102 sPolyMul_g := FnD.ok (F := sPolyMul_F) (cs := sPolyMul_c) V_ok (kC sScMul_k (kC sScAdd_k (kC sPolyTrim_k kN))) Try.func102 (by decide) (by kernel_rfl)
-- spec.ScInv
noncomputable def sScInv_F : FnD := { f := 80, fn := Try.f80, ps := [pa (.int .i64)], rs := [rt (.int .i64)], cuts := [(4, [.val 3 (.int .i64) .sh, .val 4 (.int .i64) .sh, .val 5 (.int .i64) .sh])] }
noncomputable def sScInv_c : List (Nat × Sig) := [(99, sScOf_g), (79, sScMul_g)]
noncomputable def sScInv_d : Int × Unit → Option ((Int × Unit) × Unit) := sScInv_F.d V sScInv_c
noncomputable abbrev sScInv_g : Sig := sScInv_F.t.sig sScInv_d
noncomputable def sScInv_D4 : Int × Int × Int × Unit → Option ((Int × Unit) × Unit) := sScInv_F.D V sScInv_c 4
theorem sScInv_b (x1 : Int) : sScInv_d (x1, ()) = bnd (sScOf_d (x1, ())) (fun r1 => (sScInv_D4 ((1 : Int), (r1.1.1, ((1007 : Int), ()))))) := (FnD.eq V sScInv_c sScInv_F (x1, ())).trans (by kernel_rfl)
theorem sScInv_q4 (x1 : Int) (x2 : Int) (x3 : Int) : sScInv_D4 (x1, (x2, (x3, ()))) = cnd (igt x3 (0 : Int)) (cnd (nz (2 : Int)) (cnd (ieq (irem x3 (2 : Int)) (1 : Int)) (bnd (sScMul_d (x1, (x2, ()))) (fun r3 => (bnd (sScMul_d (x2, (x2, ()))) (fun r4 => (cnd (nz (2 : Int)) (sScInv_D4 (r3.1.1, (r4.1.1, ((iquo .i64 x3 (2 : Int)), ())))) none))))) (bnd (sScMul_d (x2, (x2, ()))) (fun r3 => (cnd (nz (2 : Int)) (sScInv_D4 (x1, (r3.1.1, ((iquo .i64 x3 (2 : Int)), ())))) none)))) none) (some ((x1, ()), ())) := (FnD.eqC V sScInv_c sScInv_F 4 (x1, (x2, (x3, ())))).trans (by kernel_rfl)
theorem sScInv_k : CallsOk Try.prog gls gvs 80 sScInv_g := FnD.ok (F := sScInv_F) (cs := sScInv_c) V_ok (kC sScOf_k (kC sScMul_k kN)) Try.func80 (by decide) (by kernel_rfl)
-- spec.l14Scale
noncomputable def sL14Scale_F : FnD := { f := 120, fn := Try.f120, ps := [pa (.sl (.int .i64)), pa (.int .i64)], rs := [⟨(.sl (.int .i64)), (.own 0 .sh), false⟩], cuts := [(3, [.val 0 (.sl (.int .i64)) .sh, .val 1 (.int .i64) .sh, .val 5 (.sl (.int .i64)) (.own 0 .sh), .val 6 (.int .i64) .sh])] }
noncomputable def sL14Scale_c : List (Nat × Sig) := [(79, sScMul_g)]
noncomputable def sL14Scale_d : (List Int) × Int × Unit → Option (((List Int) × Unit) × Unit) := sL14Scale_F.d V sL14Scale_c
noncomputable abbrev sL14Scale_g : Sig := sL14Scale_F.t.sig sL14Scale_d
noncomputable def sL14Scale_D3 : (List Int) × Int × (List Int) × Int × Unit → Option (((List Int) × Unit) × Unit) := sL14Scale_F.D V sL14Scale_c 3
theorem sL14Scale_b (x1 : (List Int)) (x2 : Int) : sL14Scale_d (x1, (x2, ())) = sL14Scale_D3 (x1, (x2, (([] : List Int), ((0 : Int), ())))) := (FnD.eq V sL14Scale_c sL14Scale_F (x1, (x2, ()))).trans (by kernel_rfl)
theorem sL14Scale_q3 (x1 : (List Int)) (x2 : Int) (x3 : (List Int)) (x4 : Int) : sL14Scale_D3 (x1, (x2, (x3, (x4, ())))) = cnd (ilt x4 (len x1)) (cnd (inb x4 (len x1)) (bnd (sScMul_d ((rd (0 : Int) x1 x4), (x2, ()))) (fun r4 => (cnd (fits ((len x3) + (len (r4.1.1 :: ([] : List Int)))) 1) (sL14Scale_D3 (x1, (x2, ((app x3 (r4.1.1 :: ([] : List Int))), ((iadd .i64 x4 (1 : Int)), ()))))) none))) none) (some ((x3, ()), ())) := (FnD.eqC V sL14Scale_c sL14Scale_F 3 (x1, (x2, (x3, (x4, ()))))).trans (by kernel_rfl)
theorem sL14Scale_k : CallsOk Try.prog gls gvs 120 sL14Scale_g := FnD.ok (F := sL14Scale_F) (cs := sL14Scale_c) V_ok (kC sScMul_k kN) Try.func120 (by decide) (by kernel_rfl)
-- spec.PolyAdd
noncomputable def sPolyAdd_F : FnD := { f := 119, fn := Try.f119, ps := [pa (.sl (.int .i64)), pa (.sl (.int .i64))], rs := [⟨(.sl (.int .i64)), (.own 0 .sh), false⟩], joins := [4, 10], cuts := [(4, [.val 0 (.sl (.int .i64)) .sh, .val 1 (.sl (.int .i64)) .sh, .val 5 (.int .i64) .sh]), (10, [.val 0 (.sl (.int .i64)) .sh, .val 1 (.sl (.int .i64)) .sh, .val 5 (.int .i64) .sh, .val 6 (.sl (.int .i64)) (.own 0 .sh), .val 7 (.int .i64) .sh]), (6, [.val 0 (.sl (.int .i64)) .sh, .val 1 (.sl (.int .i64)) .sh, .val 5 (.int .i64) .sh, .val 6 (.sl (.int .i64)) (.own 0 .sh), .val 7 (.int .i64) .sh])] }
noncomputable def sPolyAdd_c : List (Nat × Sig) := [(101, sScAdd_g), (121, sPolyTrim_g)]
noncomputable def sPolyAdd_d : (List Int) × (List Int) × Unit → Option (((List Int) × Unit) × Unit) := sPolyAdd_F.d V sPolyAdd_c
noncomputable abbrev sPolyAdd_g : Sig := sPolyAdd_F.t.sig sPolyAdd_d
noncomputable def sPolyAdd_D4 : (List Int) × (List Int) × Int × Unit → Option (((List Int) × Unit) × Unit) := sPolyAdd_F.D V sPolyAdd_c 4
noncomputable def sPolyAdd_D10 : (List Int) × (List Int) × Int × (List Int) × Int × Unit → Option (((List Int) × Unit) × Unit) := sPolyAdd_F.D V sPolyAdd_c 10
noncomputable def sPolyAdd_D6 : (List Int) × (List Int) × Int × (List Int) × Int × Unit → Option (((List Int) × Unit) × Unit) := sPolyAdd_F.D V sPolyAdd_c 6
theorem sPolyAdd_b (x1 : (List Int)) (x2 : (List Int)) : sPolyAdd_d (x1, (x2, ())) = cnd (igt (len x2) (len x1)) (sPolyAdd_D4 (x1, (x2, ((len x2), ())))) (sPolyAdd_D4 (x1, (x2, ((len x1), ())))) := (FnD.eq V sPolyAdd_c sPolyAdd_F (x1, (x2, ()))).trans (by kernel_rfl)
theorem sPolyAdd_q4 (x1 : (List Int)) (x2 : (List Int)) (x3 : Int) : sPolyAdd_D4 (x1, (x2, (x3, ()))) = cnd (both (inb2 (0 : Int) x3 x3) (fits x3 1)) (sPolyAdd_D6 (x1, (x2, (x3, ((rep x3 (0 : Int)), ((0 : Int), ())))))) none := (FnD.eqC V sPolyAdd_c sPolyAdd_F 4 (x1, (x2, (x3, ())))).trans (by kernel_rfl)
theorem sPolyAdd_q10 (x1 : (List Int)) (x2 : (List Int)) (x3 : Int) (x4 : (List Int)) (x5 : Int) : sPolyAdd_D10 (x1, (x2, (x3, (x4, (x5, ()))))) = cnd (ilt x5 (len x2)) (cnd (inb x5 (len x4)) (cnd (inb x5 (len x2)) (bnd (sScAdd_d ((rd (0 : Int) x4 x5), ((rd (0 : Int) x2 x5), ()))) (fun r5 => (cnd (inb x5 (len x4)) (sPolyAdd_D6 (x1, (x2, (x3, ((upd x4 x5 r5.1.1), ((iadd .i64 x5 (1 : Int)), ())))))) none))) none) none) (sPolyAdd_D6 (x1, (x2, (x3, (x4, ((iadd .i64 x5 (1 : Int)), ())))))) := (FnD.eqC V sPolyAdd_c sPolyAdd_F 10 (x1, (x2, (x3, (x4, (x5, ())))))).trans (by kernel_rfl)
theorem sPolyAdd_q6 (x1 : (List Int)) (x2 : (List Int)) (x3 : Int) (x4 : (List Int)) (x5 : Int) : sPolyAdd_D6 (x1, (x2, (x3, (x4, (x5, ()))))) = cnd (ilt x5 x3) (cnd (ilt x5 (len x1)) (cnd (inb x5 (len x4)) (cnd (inb x5 (len x1)) (bnd (sScAdd_d ((rd (0 : Int) x4 x5), ((rd (0 : Int) x1 x5), ()))) (fun r5 => (cnd (inb x5 (len x4)) (sPolyAdd_D10 (x1, (x2, (x3, ((upd x4 x5 r5.1.1), (x5, ())))))) none))) none) none) (sPolyAdd_D10 (x1, (x2, (x3, (x4, (x5, ()))))))) (bnd (sPolyTrim_d (x4, ())) (fun r5 => (some ((r5.1.1, ()), ())))) := (FnD.eqC V sPolyAdd_c sPolyAdd_F 6 (x1, (x2, (x3, (x4, (x5, ())))))).trans (by kernel_rfl)
theorem sPolyAdd_k : CallsOk Try.prog gls gvs 119 sPolyAdd_g := FnD.ok (F := sPolyAdd_F) (cs := sPolyAdd_c) V_ok (kC sScAdd_k (kC sPolyTrim_k kN)) Try.func119 (by decide) (by kernel_rfl)
-- spec.PolyThrough
noncomputable def sPolyThrough_F : FnD := { f := 98, fn := Try.f98, ps := [pa (.sl (.int .i64))], rs := [⟨(.sl (.int .i64)), (.own 0 .sh), false⟩], cuts := [(10, [.val 0 (.sl (.int .i64)) .sh, .val 3 (.sl (.int .i64)) (.own 0 .sh), .val 4 (.int .i64) .sh, .val 5 (.sl (.int .i64)) (.own 0 .sh), .val 6 (.int .i64) .sh, .val 7 (.int .i64) .sh]), (5, [.val 0 (.sl (.int .i64)) .sh, .val 3 (.sl (.int .i64)) (.own 0 .sh), .val 4 (.int .i64) .sh])] }
noncomputable def sPolyThrough_c : List (Nat × Sig) := [(102, sPolyMul_g), (79, sScMul_g), (80, sScInv_g), (120, sL14Scale_g), (119, sPolyAdd_g)]
noncomputable def sPolyThrough_d : (List Int) × Unit → Option (((List Int) × Unit) × Unit) := sPolyThrough_F.d V sPolyThrough_c
noncomputable abbrev sPolyThrough_g : Sig := sPolyThrough_F.t.sig sPolyThrough_d
noncomputable def sPolyThrough_D10 : (List Int) × (List Int) × Int × (List Int) × Int × Int × Unit → Option (((List Int) × Unit) × Unit) := sPolyThrough_F.D V sPolyThrough_c 10
noncomputable def sPolyThrough_D5 : (List Int) × (List Int) × Int × Unit → Option (((List Int) × Unit) × Unit) := sPolyThrough_F.D V sPolyThrough_c 5
theorem sPolyThrough_b (x1 : (List Int)) : sPolyThrough_d (x1, ()) = cnd (igt (len x1) (16 : Int)) (some ((([] : List Int), ()), ())) (sPolyThrough_D5 (x1, (([] : List Int), ((0 : Int), ())))) := (FnD.eq V sPolyThrough_c sPolyThrough_F (x1, ())).trans (by kernel_rfl)
theorem sPolyThrough_q10 (x1 : (List Int)) (x2 : (List Int)) (x3 : Int) (x4 : (List Int)) (x5 : Int) (x6 : Int) : sPolyThrough_D10 (x1, (x2, (x3, (x4, (x5, (x6, ())))))) = cnd (ilt x6 (len x1)) (cnd (ine x6 x3) (bnd (sPolyMul_d (x4, (((ineg .i64 (iadd .i64 x6 (1 : Int))) :: ((1 : Int) :: ([] : List Int))), ()))) (fun r6 => (bnd (sScMul_d (x5, ((isub .i64 x3 x6), ()))) (fun r7 => (sPolyThrough_D10 (x1, (x2, (x3, (r6.1.1, (r7.1.1, ((iadd .i64 x6 (1 : Int)), ()))))))))))) (sPolyThrough_D10 (x1, (x2, (x3, (x4, (x5, ((iadd .i64 x6 (1 : Int)), ())))))))) none := (FnD.eqC V sPolyThrough_c sPolyThrough_F 10 (x1, (x2, (x3, (x4, (x5, (x6, ()))))))).trans (by kernel_rfl)
theorem sPolyThrough_q5 (x1 : (List Int)) (x2 : (List Int)) (x3 : Int) : sPolyThrough_D5 (x1, (x2, (x3, ()))) = cnd (ilt x3 (len x1)) (sPolyThrough_D10 (x1, (x2, (x3, (((1 : Int) :: ([] : List Int)), ((1 : Int), ((0 : Int), ()))))))) (some ((x2, ()), ())) := (FnD.eqC V sPolyThrough_c sPolyThrough_F 5 (x1, (x2, (x3, ())))).trans (by kernel_rfl)
theorem sPolyThrough_k : CallsOk Try.prog gls gvs 98 sPolyThrough_g := FnD.ok (F := sPolyThrough_F) (cs := sPolyThrough_c) V_ok (kC sPolyMul_k (kC sScMul_k (kC sScInv_k (kC sL14Scale_k (kC sPolyAdd_k kN))))) Try.func98 (by decide) (by kernel_rfl)
-- spec.QapOf
noncomputable def sQapOf_F : FnD := { f := 76, fn := Try.f76, ps := [pa TSystem], rs := [⟨TQap, (.pr (.own 0 (.own 0 .sh)) (.pr (.own 0 (.own 0 .sh)) (.pr (.own 0 (.own 0 .sh)) .sh))), false⟩, rt .bool], cuts := [(11, [.val 5 (.int .i64) .sh, .val 6 (.sl (.int .i64)) (.own 0 .sh), .val 7 (.sl (.int .i64)) (.own 0 .sh), .val 8 (.sl (.int .i64)) (.own 0 .sh), .val 9 (.int .i64) .sh, .box 1 TSystem .sh, .box 2 TQap (.pr (.own 0 (.own 0 .sh)) (.pr (.own 0 (.own 0 .sh)) (.pr (.own 0 (.own 0 .sh)) .sh))), .box 4 TQap (.pr (.own 0 (.own 0 .sh)) (.pr (.own 0 (.own 0 .sh)) (.pr (.own 0 (.own 0 .sh)) .sh))), .ptr 1 1 0, .ptr 2 2 0, .ptr 4 4 0]), (5, [.val 5 (.int .i64) .sh, .box 1 TSystem .sh, .box 2 TQap (.pr (.own 0 (.own 0 .sh)) (.pr (.own 0 (.own 0 .sh)) (.pr (.own 0 (.own 0 .sh)) .sh))), .box 4 TQap (.pr (.own 0 (.own 0 .sh)) (.pr (.own 0 (.own 0 .sh)) (.pr (.own 0 (.own 0 .sh)) .sh))), .ptr 1 1 0, .ptr 2 2 0, .ptr 4 4 0])] }
noncomputable def sQapOf_c : List (Nat × Sig) := [(96, sSystemOk_g), (98, sPolyThrough_g)]
noncomputable def sQapOf_d : tSystem × Unit → Option ((tQap × Bool × Unit) × Unit) := sQapOf_F.d V sQapOf_c
noncomputable abbrev sQapOf_g : Sig := sQapOf_F.t.sig sQapOf_d
noncomputable def sQapOf_D11 : Int × (List Int) × (List Int) × (List Int) × Int × tSystem × tQap × tQap × Unit → Option ((tQap × Bool × Unit) × Unit) := sQapOf_F.D V sQapOf_c 11
noncomputable def sQapOf_D5 : Int × tSystem × tQap × tQap × Unit → Option ((tQap × Bool × Unit) × Unit) := sQapOf_F.D V sQapOf_c 5
theorem sQapOf_b (x1 : tSystem) : sQapOf_d (x1, ()) = bnd (sSystemOk_d (x1, ())) (fun r1 => (cnd (bnot r1.1.1) (some ((zQap, (false, ())), ())) (sQapOf_D5 ((0 : Int), (x1, (zQap, (zQap, ()))))))) := (FnD.eq V sQapOf_c sQapOf_F (x1, ())).trans (by kernel_rfl)
theorem sQapOf_q11 (x1 : Int) (x2 : (List Int)) (x3 : (List Int)) (x4 : (List Int)) (x5 : Int) (x6 : tSystem) (x7 : tQap) (x8 : tQap) : sQapOf_D11 (x1, (x2, (x3, (x4, (x5, (x6, (x7, (x8, ())))))))) = cnd (ilt x5 (len x6.2.2.1)) (cnd (inb x5 (len x6.2.2.1)) (cnd (inb x1 (len (rd zRow x6.2.2.1 x5).1)) (cnd (fits ((len x2) + (len ((rd (0 : Int) (rd zRow x6.2.2.1 x5).1 x1) :: ([] : List Int)))) 1) (cnd (inb x5 (len x6.2.2.1)) (cnd (inb x1 (len (rd zRow x6.2.2.1 x5).2.1)) (cnd (fits ((len x3) + (len ((rd (0 : Int) (rd zRow x6.2.2.1 x5).2.1 x1) :: ([] : List Int)))) 1) (cnd (inb x5 (len x6.2.2.1)) (cnd (inb x1 (len (rd zRow x6.2.2.1 x5).2.2.1)) (cnd (fits ((len x4) + (len ((rd (0 : Int) (rd zRow x6.2.2.1 x5).2.2.1 x1) :: ([] : List Int)))) 1) (sQapOf_D11 (x1, ((app x2 ((rd (0 : Int) (rd zRow x6.2.2.1 x5).1 x1) :: ([] : List Int))), ((app x3 ((rd (0 : Int) (rd zRow x6.2.2.1 x5).2.1 x1) :: ([] : List Int))), ((app x4 ((rd (0 : Int) (rd zRow x6.2.2.1 x5).2.2.1 x1) :: ([] : List Int))), ((iadd .i64 x5 (1 : Int)), (x6, (x7, (x8, ()))))))))) none) none) none) none) none) none) none) none) none) (bnd (sPolyThrough_d (x2, ())) (fun r8 => none)) := (FnD.eqC V sQapOf_c sQapOf_F 11 (x1, (x2, (x3, (x4, (x5, (x6, (x7, (x8, ()))))))))).trans (by kernel_rfl)
theorem sQapOf_q5 (x1 : Int) (x2 : tSystem) (x3 : tQap) (x4 : tQap) : sQapOf_D5 (x1, (x2, (x3, (x4, ())))) = cnd (ilt x1 x2.1) (sQapOf_D11 (x1, (([] : List Int), (([] : List Int), (([] : List Int), ((0 : Int), (x2, (x3, (x4, ()))))))))) (some ((x4, (true, ())), ())) := (FnD.eqC V sQapOf_c sQapOf_F 5 (x1, (x2, (x3, (x4, ()))))).trans (by kernel_rfl)
theorem sQapOf_k : CallsOk Try.prog gls gvs 76 sQapOf_g := FnD.ok (F := sQapOf_F) (cs := sQapOf_c) V_ok (kC sSystemOk_k (kC sPolyThrough_k kN)) Try.func76 (by decide) (by kernel_rfl)
-- spec.Base
noncomputable def sBase_F : FnD := { f := 100, fn := Try.f100, ps := [], rs := [rt TPoint] }
noncomputable def sBase_c : List (Nat × Sig) := []
noncomputable def sBase_d : Unit → Option ((tPoint × Unit) × Unit) := sBase_F.d V sBase_c
noncomputable abbrev sBase_g : Sig := sBase_F.t.sig sBase_d
theorem sBase_b : sBase_d () = some ((((8445 : Int), ((859 : Int), (false, ()))), ()), ()) := (FnD.eq V sBase_c sBase_F ()).trans (by kernel_rfl)
theorem sBase_k : CallsOk Try.prog gls gvs 100 sBase_g := FnD.ok (F := sBase_F) (cs := sBase_c) V_ok kN Try.func100 (by decide) (by kernel_rfl)
-- spec.KeyOf
noncomputable def sKeyOf_F : FnD := { f := 77, fn := Try.f77, ps := [pa (.int .i64)], rs := [rt TPoint] }
noncomputable def sKeyOf_c : List (Nat × Sig) := [(99, sScOf_g), (100, sBase_g), (94, sPointTimes_g)]
noncomputable def sKeyOf_d : Int × Unit → Option ((tPoint × Unit) × Unit) := sKeyOf_F.d V sKeyOf_c
noncomputable abbrev sKeyOf_g : Sig := sKeyOf_F.t.sig sKeyOf_d
theorem sKeyOf_b (x1 : Int) : sKeyOf_d (x1, ()) = bnd (sScOf_d (x1, ())) (fun r1 => (bnd (sBase_d ()) (fun r2 => (bnd (sPointTimes_d (r1.1.1, (r2.1.1, ()))) (fun r3 => (some ((r3.1.1, ()), ()))))))) := (FnD.eq V sKeyOf_c sKeyOf_F (x1, ())).trans (by kernel_rfl)
theorem sKeyOf_k : CallsOk Try.prog gls gvs 77 sKeyOf_g := FnD.ok (F := sKeyOf_F) (cs := sKeyOf_c) V_ok (kC sScOf_k (kC sBase_k (kC sPointTimes_k kN))) Try.func77 (by decide) (by kernel_rfl)
-- spec.PolyAt
noncomputable def sPolyAt_F : FnD := { f := 81, fn := Try.f81, ps := [pa (.sl (.int .i64)), pa (.int .i64)], rs := [rt (.int .i64)], cuts := [(3, [.val 0 (.sl (.int .i64)) .sh, .val 1 (.int .i64) .sh, .val 5 (.int .i64) .sh, .val 6 (.int .i64) .sh])] }
noncomputable def sPolyAt_c : List (Nat × Sig) := [(79, sScMul_g), (101, sScAdd_g)]
noncomputable def sPolyAt_d : (List Int) × Int × Unit → Option ((Int × Unit) × Unit) := sPolyAt_F.d V sPolyAt_c
noncomputable abbrev sPolyAt_g : Sig := sPolyAt_F.t.sig sPolyAt_d
noncomputable def sPolyAt_D3 : (List Int) × Int × Int × Int × Unit → Option ((Int × Unit) × Unit) := sPolyAt_F.D V sPolyAt_c 3
theorem sPolyAt_b (x1 : (List Int)) (x2 : Int) : sPolyAt_d (x1, (x2, ())) = sPolyAt_D3 (x1, (x2, ((0 : Int), ((isub .i64 (len x1) (1 : Int)), ())))) := (FnD.eq V sPolyAt_c sPolyAt_F (x1, (x2, ()))).trans (by kernel_rfl)
theorem sPolyAt_q3 (x1 : (List Int)) (x2 : Int) (x3 : Int) (x4 : Int) : sPolyAt_D3 (x1, (x2, (x3, (x4, ())))) = cnd (ige x4 (0 : Int)) none (some ((x3, ()), ())) := (FnD.eqC V sPolyAt_c sPolyAt_F 3 (x1, (x2, (x3, (x4, ()))))).trans (by kernel_rfl)
theorem sPolyAt_k : CallsOk Try.prog gls gvs 81 sPolyAt_g := FnD.ok (F := sPolyAt_F) (cs := sPolyAt_c) V_ok (kC sScMul_k (kC sScAdd_k kN)) Try.func81 (by decide) (by kernel_rfl)
-- spec.l16Wire
noncomputable def sL16Wire_F : FnD := { f := 78, fn := Try.f78, ps := [pa TQap, pa TToxic, pa (.int .i64)], rs := [rt (.int .i64), rt (.int .i64), rt (.int .i64)] }
noncomputable def sL16Wire_c : List (Nat × Sig) := [(81, sPolyAt_g), (79, sScMul_g), (101, sScAdd_g)]
noncomputable def sL16Wire_d : tQap × tToxic × Int × Unit → Option ((Int × Int × Int × Unit) × Unit) := sL16Wire_F.d V sL16Wire_c
noncomputable abbrev sL16Wire_g : Sig := sL16Wire_F.t.sig sL16Wire_d
theorem sL16Wire_b (x1 : tQap) (x2 : tToxic) (x3 : Int) : sL16Wire_d (x1, (x2, (x3, ()))) = cnd (inb x3 (len x1.1)) (bnd (sPolyAt_d ((rd ([] : List Int) x1.1 x3), (x2.1, ()))) (fun r3 => (cnd (inb x3 (len x1.2.1)) (bnd (sPolyAt_d ((rd ([] : List Int) x1.2.1 x3), (x2.1, ()))) (fun r4 => (cnd (inb x3 (len x1.2.2.1)) (bnd (sPolyAt_d ((rd ([] : List Int) x1.2.2.1 x3), (x2.1, ()))) (fun r5 => (bnd (sScMul_d (x2.2.2.1, (r3.1.1, ()))) (fun r6 => (bnd (sScMul_d (x2.2.1, (r4.1.1, ()))) (fun r7 => (bnd (sScAdd_d (r6.1.1, (r7.1.1, ()))) (fun r8 => (bnd (sScAdd_d (r8.1.1, (r5.1.1, ()))) (fun r9 => (some ((r3.1.1, (r4.1.1, (r9.1.1, ()))), ())))))))))))) none))) none))) none := (FnD.eq V sL16Wire_c sL16Wire_F (x1, (x2, (x3, ())))).trans (by kernel_rfl)
theorem sL16Wire_k : CallsOk Try.prog gls gvs 78 sL16Wire_g := FnD.ok (F := sL16Wire_F) (cs := sL16Wire_c) V_ok (kC sPolyAt_k (kC sScMul_k (kC sScAdd_k kN))) Try.func78 (by decide) (by kernel_rfl)
-- spec.PolyZero
noncomputable def sPolyZero_F : FnD := { f := 82, fn := Try.f82, ps := [pa (.int .i64)], rs := [⟨(.sl (.int .i64)), (.own 0 .sh), false⟩], cuts := [(5, [.val 0 (.int .i64) .sh, .val 3 (.sl (.int .i64)) (.own 0 .sh), .val 4 (.int .i64) .sh])] }
noncomputable def sPolyZero_c : List (Nat × Sig) := [(23, sL01In_g), (102, sPolyMul_g)]
noncomputable def sPolyZero_d : Int × Unit → Option (((List Int) × Unit) × Unit) := sPolyZero_F.d V sPolyZero_c
noncomputable abbrev sPolyZero_g : Sig := sPolyZero_F.t.sig sPolyZero_d
noncomputable def sPolyZero_D5 : Int × (List Int) × Int × Unit → Option (((List Int) × Unit) × Unit) := sPolyZero_F.D V sPolyZero_c 5
theorem sPolyZero_b (x1 : Int) : sPolyZero_d (x1, ()) = bnd (sL01In_d (x1, ((0 : Int), ((16 : Int), ())))) (fun r1 => (cnd (bnot r1.1.1) (some ((([] : List Int), ()), ())) (sPolyZero_D5 (x1, (((1 : Int) :: ([] : List Int)), ((1 : Int), ())))))) := (FnD.eq V sPolyZero_c sPolyZero_F (x1, ())).trans (by kernel_rfl)
theorem sPolyZero_q5 (x1 : Int) (x2 : (List Int)) (x3 : Int) : sPolyZero_D5 (x1, (x2, (x3, ()))) = cnd (ile x3 x1) (bnd (sPolyMul_d (x2, (((ineg .i64 x3) :: ((1 : Int) :: ([] : List Int))), ()))) (fun r3 => (sPolyZero_D5 (x1, (r3.1.1, ((iadd .i64 x3 (1 : Int)), ())))))) (some ((x2, ()), ())) := (FnD.eqC V sPolyZero_c sPolyZero_F 5 (x1, (x2, (x3, ())))).trans (by kernel_rfl)
theorem sPolyZero_k : CallsOk Try.prog gls gvs 82 sPolyZero_g := FnD.ok (F := sPolyZero_F) (cs := sPolyZero_c) V_ok (kC sL01In_k (kC sPolyMul_k kN)) Try.func82 (by decide) (by kernel_rfl)
-- spec.MakeKeys
noncomputable def sMakeKeys_F : FnD := { f := 60, fn := Try.f60, ps := [pa TSystem, pa TToxic], rs := [⟨TMaker, (.pr (.pr .sh (.pr .sh (.pr .sh (.pr .sh (.pr (.own 0 .sh) .sh))))) (.pr (.own 0 .sh) (.pr (.own 0 .sh) (.pr (.own 0 .sh) (.pr (.own 0 .sh) .sh))))), false⟩, rt .bool], cuts := [(6, [.val 9 (.int .i64) .sh, .box 2 TSystem .sh, .box 3 TToxic .sh, .box 4 TMaker (.pr (.pr .sh (.pr .sh (.pr .sh (.pr .sh (.pr (.own 0 .sh) .sh))))) (.pr (.own 0 .sh) (.pr (.own 0 .sh) (.pr (.own 0 .sh) (.pr (.own 0 .sh) .sh))))), .box 6 TQap (.pr (.own 0 (.own 0 .sh)) (.pr (.own 0 (.own 0 .sh)) (.pr (.own 0 (.own 0 .sh)) .sh))), .box 8 TMaker (.pr (.pr .sh (.pr .sh (.pr .sh (.pr .sh (.pr (.own 0 .sh) .sh))))) (.pr (.own 0 .sh) (.pr (.own 0 .sh) (.pr (.own 0 .sh) (.pr (.own 0 .sh) .sh))))), .ptr 2 2 0, .ptr 3 3 0, .ptr 4 4 0, .ptr 6 6 0, .ptr 8 8 0]), (16, [.val 13 (.int .i64) .sh, .val 14 (.int .i64) .sh, .box 2 TSystem .sh, .box 3 TToxic .sh, .box 4 TMaker (.pr (.pr .sh (.pr .sh (.pr .sh (.pr .sh (.pr (.own 0 .sh) .sh))))) (.pr (.own 0 .sh) (.pr (.own 0 .sh) (.pr (.own 0 .sh) (.pr (.own 0 .sh) .sh))))), .box 8 TMaker (.pr (.pr .sh (.pr .sh (.pr .sh (.pr .sh (.pr (.own 0 .sh) .sh))))) (.pr (.own 0 .sh) (.pr (.own 0 .sh) (.pr (.own 0 .sh) (.pr (.own 0 .sh) .sh))))), .ptr 2 2 0, .ptr 3 3 0, .ptr 4 4 0, .ptr 8 8 0])] }
noncomputable def sMakeKeys_c : List (Nat × Sig) := [(75, sToxicOk_g), (76, sQapOf_g), (77, sKeyOf_g), (78, sL16Wire_g), (80, sScInv_g), (79, sScMul_g), (82, sPolyZero_g), (81, sPolyAt_g)]
noncomputable def sMakeKeys_d : tSystem × tToxic × Unit → Option ((tMaker × Bool × Unit) × Unit) := sMakeKeys_F.d V sMakeKeys_c
noncomputable abbrev sMakeKeys_g : Sig := sMakeKeys_F.t.sig sMakeKeys_d
noncomputable def sMakeKeys_D6 : Int × tSystem × tToxic × tMaker × tQap × tMaker × Unit → Option ((tMaker × Bool × Unit) × Unit) := sMakeKeys_F.D V sMakeKeys_c 6
noncomputable def sMakeKeys_D16 : Int × Int × tSystem × tToxic × tMaker × tMaker × Unit → Option ((tMaker × Bool × Unit) × Unit) := sMakeKeys_F.D V sMakeKeys_c 16
theorem sMakeKeys_b (x1 : tSystem) (x2 : tToxic) : sMakeKeys_d (x1, (x2, ())) = bnd (sToxicOk_d (x1, (x2, ()))) (fun r2 => (cnd (bnot r2.1.1) (some ((zMaker, (false, ())), ())) (bnd (sQapOf_d (x1, ())) (fun r3 => (bnd (sKeyOf_d (x2.2.1, ())) (fun r4 => (bnd (sKeyOf_d (x2.2.2.1, ())) (fun r5 => (bnd (sKeyOf_d (x2.2.2.2.1, ())) (fun r6 => (bnd (sKeyOf_d (x2.2.2.2.2.1, ())) (fun r7 => none)))))))))))) := (FnD.eq V sMakeKeys_c sMakeKeys_F (x1, (x2, ()))).trans (by kernel_rfl)
theorem sMakeKeys_q6 (x1 : Int) (x2 : tSystem) (x3 : tToxic) (x4 : tMaker) (x5 : tQap) (x6 : tMaker) : sMakeKeys_D6 (x1, (x2, (x3, (x4, (x5, (x6, ())))))) = cnd (ilt x1 x2.1) (bnd (sL16Wire_d (x5, (x3, (x1, ())))) (fun r6 => (bnd (sKeyOf_d (r6.1.1, ())) (fun r7 => (cnd (fits ((len x6.2.1) + (len (r7.1.1 :: ([] : List tPoint)))) 3) (bnd (sKeyOf_d (r6.1.2.1, ())) (fun r8 => (cnd (fits ((len x6.2.2.1) + (len (r8.1.1 :: ([] : List tPoint)))) 3) (cnd (ile x1 x2.2.1) (bnd (sScInv_d (x3.2.2.2.1, ())) (fun r9 => (bnd (sScMul_d (r6.1.2.2.1, (r9.1.1, ()))) (fun r10 => (bnd (sKeyOf_d (r10.1.1, ())) (fun r11 => (cnd (fits ((len x6.1.2.2.2.2.1) + (len (r11.1.1 :: ([] : List tPoint)))) 3) (sMakeKeys_D6 ((iadd .i64 x1 (1 : Int)), (x2, (x3, (x4, (x5, (((x6.1.1, (x6.1.2.1, (x6.1.2.2.1, (x6.1.2.2.2.1, ((app x6.1.2.2.2.2.1 (r11.1.1 :: ([] : List tPoint))), x6.1.2.2.2.2.2))))), ((app x6.2.1 (r7.1.1 :: ([] : List tPoint))), ((app x6.2.2.1 (r8.1.1 :: ([] : List tPoint))), x6.2.2.2))), ()))))))) none))))))) (bnd (sScInv_d (x3.2.2.2.2.1, ())) (fun r9 => (bnd (sScMul_d (r6.1.2.2.1, (r9.1.1, ()))) (fun r10 => (bnd (sKeyOf_d (r10.1.1, ())) (fun r11 => (cnd (fits ((len x6.2.2.2.1) + (len (r11.1.1 :: ([] : List tPoint)))) 3) (sMakeKeys_D6 ((iadd .i64 x1 (1 : Int)), (x2, (x3, (x4, (x5, ((x6.1, ((app x6.2.1 (r7.1.1 :: ([] : List tPoint))), ((app x6.2.2.1 (r8.1.1 :: ([] : List tPoint))), ((app x6.2.2.2.1 (r11.1.1 :: ([] : List tPoint))), x6.2.2.2.2)))), ()))))))) none)))))))) none))) none))))) (bnd (sPolyZero_d ((len x2.2.2.1), ())) (fun r6 => (bnd (sPolyAt_d (r6.1.1, (x3.1, ()))) (fun r7 => (bnd (sScInv_d (x3.2.2.2.2.1, ())) (fun r8 => (bnd (sScMul_d (r7.1.1, (r8.1.1, ()))) (fun r9 => (sMakeKeys_D16 (r9.1.1, ((0 : Int), (x2, (x3, (x4, (x6, ()))))))))))))))) := (FnD.eqC V sMakeKeys_c sMakeKeys_F 6 (x1, (x2, (x3, (x4, (x5, (x6, ()))))))).trans (by kernel_rfl)
theorem sMakeKeys_q16 (x1 : Int) (x2 : Int) (x3 : tSystem) (x4 : tToxic) (x5 : tMaker) (x6 : tMaker) : sMakeKeys_D16 (x1, (x2, (x3, (x4, (x5, (x6, ())))))) = cnd (ilt (iadd .i64 x2 (1 : Int)) (len x3.2.2.1)) (bnd (sKeyOf_d (x1, ())) (fun r6 => (cnd (fits ((len x6.2.2.2.2.1) + (len (r6.1.1 :: ([] : List tPoint)))) 3) (bnd (sScMul_d (x1, (x4.1, ()))) (fun r7 => (sMakeKeys_D16 (r7.1.1, ((iadd .i64 x2 (1 : Int)), (x3, (x4, (x5, ((x6.1, (x6.2.1, (x6.2.2.1, (x6.2.2.2.1, ((app x6.2.2.2.2.1 (r6.1.1 :: ([] : List tPoint))), x6.2.2.2.2.2))))), ()))))))))) none))) (some ((x6, (true, ())), ())) := (FnD.eqC V sMakeKeys_c sMakeKeys_F 16 (x1, (x2, (x3, (x4, (x5, (x6, ()))))))).trans (by kernel_rfl)
theorem sMakeKeys_k : CallsOk Try.prog gls gvs 60 sMakeKeys_g := FnD.ok (F := sMakeKeys_F) (cs := sMakeKeys_c) V_ok (kC sToxicOk_k (kC sQapOf_k (kC sKeyOf_k (kC sL16Wire_k (kC sScInv_k (kC sScMul_k (kC sPolyZero_k (kC sPolyAt_k kN)))))))) Try.func60 (by decide) (by kernel_rfl)
-- spec.l21Maker
noncomputable def sL21Maker_F : FnD := { f := 40, fn := Try.f40, ps := [], rs := [⟨TMaker, (.pr (.pr .sh (.pr .sh (.pr .sh (.pr .sh (.pr (.own 0 .sh) .sh))))) (.pr (.own 0 .sh) (.pr (.own 0 .sh) (.pr (.own 0 .sh) (.pr (.own 0 .sh) .sh))))), false⟩] }
noncomputable def sL21Maker_c : List (Nat × Sig) := [(61, sCountSystem_g), (60, sMakeKeys_g)]
noncomputable def sL21Maker_d : Unit → Option ((tMaker × Unit) × Unit) := sL21Maker_F.d V sL21Maker_c
noncomputable abbrev sL21Maker_g : Sig := sL21Maker_F.t.sig sL21Maker_d
theorem sL21Maker_b : sL21Maker_d () = bnd (sCountSystem_d ()) (fun r0 => (bnd (sMakeKeys_d (r0.1.1, (((77 : Int), ((5 : Int), ((7 : Int), ((11 : Int), ((13 : Int), ()))))), ()))) (fun r1 => (some ((r1.1.1, ()), ()))))) := (FnD.eq V sL21Maker_c sL21Maker_F ()).trans (by kernel_rfl)
theorem sL21Maker_k : CallsOk Try.prog gls gvs 40 sL21Maker_g := FnD.ok (F := sL21Maker_F) (cs := sL21Maker_c) V_ok (kC sCountSystem_k (kC sMakeKeys_k kN)) Try.func40 (by decide) (by kernel_rfl)
-- spec.ScriptMaker
noncomputable def sScriptMaker_F : FnD := { f := 14, fn := Try.f14, ps := [], rs := [⟨TMaker, (.pr (.pr .sh (.pr .sh (.pr .sh (.pr .sh (.pr (.own 0 .sh) .sh))))) (.pr (.own 0 .sh) (.pr (.own 0 .sh) (.pr (.own 0 .sh) (.pr (.own 0 .sh) .sh))))), false⟩] }
noncomputable def sScriptMaker_c : List (Nat × Sig) := [(40, sL21Maker_g)]
noncomputable def sScriptMaker_d : Unit → Option ((tMaker × Unit) × Unit) := sScriptMaker_F.d V sScriptMaker_c
noncomputable abbrev sScriptMaker_g : Sig := sScriptMaker_F.t.sig sScriptMaker_d
theorem sScriptMaker_b : sScriptMaker_d () = bnd (sL21Maker_d ()) (fun r0 => (some ((r0.1.1, ()), ()))) := (FnD.eq V sScriptMaker_c sScriptMaker_F ()).trans (by kernel_rfl)
theorem sScriptMaker_k : CallsOk Try.prog gls gvs 14 sScriptMaker_g := FnD.ok (F := sScriptMaker_F) (cs := sScriptMaker_c) V_ok (kC sL21Maker_k kN) Try.func14 (by decide) (by kernel_rfl)
-- impl.unit
noncomputable def iUnit_F : FnD := { f := 70, fn := Try.f70, ps := [pa (.int .i64), pa (.int .i64)], rs := [⟨(.sl (.int .i64)), (.own 0 .sh), false⟩] }
noncomputable def iUnit_c : List (Nat × Sig) := []
noncomputable def iUnit_d : Int × Int × Unit → Option (((List Int) × Unit) × Unit) := iUnit_F.d V iUnit_c
noncomputable abbrev iUnit_g : Sig := iUnit_F.t.sig iUnit_d
theorem iUnit_b (x1 : Int) (x2 : Int) : iUnit_d (x1, (x2, ())) = cnd (both (inb2 (0 : Int) x1 x1) (fits x1 1)) (cnd (inb x2 (len (rep x1 (0 : Int)))) (some (((upd (rep x1 (0 : Int)) x2 (1 : Int)), ()), ())) none) none := (FnD.eq V iUnit_c iUnit_F (x1, (x2, ()))).trans (by kernel_rfl)
theorem iUnit_k : CallsOk Try.prog gls gvs 70 iUnit_g := FnD.ok (F := iUnit_F) (cs := iUnit_c) V_ok kN Try.func70 (by decide) (by kernel_rfl)
-- impl.CountSystem
noncomputable def iCountSystem_F : FnD := { f := 42, fn := Try.f42, ps := [], rs := [⟨TSystem, (.pr .sh (.pr .sh (.pr (.own 0 (.pr (.own 0 .sh) (.pr (.own 0 .sh) (.pr (.own 0 .sh) .sh)))) .sh))), false⟩], cuts := [(4, [.val 2 (.sl (.int .i64)) (.own 0 .sh), .val 3 (.sl (.int .i64)) (.own 0 .sh), .val 13 (.int .i64) .sh, .box 0 TSystem (.pr .sh (.pr .sh (.pr (.own 0 (.pr (.own 0 .sh) (.pr (.own 0 .sh) (.pr (.own 0 .sh) .sh)))) .sh))), .box 1 TSystem (.pr .sh (.pr .sh (.pr (.own 0 (.pr (.own 0 .sh) (.pr (.own 0 .sh) (.pr (.own 0 .sh) .sh)))) .sh))), .ptr 0 0 0, .ptr 1 1 0])] }
noncomputable def iCountSystem_c : List (Nat × Sig) := [(70, iUnit_g)]
noncomputable def iCountSystem_d : Unit → Option ((tSystem × Unit) × Unit) := iCountSystem_F.d V iCountSystem_c
noncomputable abbrev iCountSystem_g : Sig := iCountSystem_F.t.sig iCountSystem_d
noncomputable def iCountSystem_D4 : (List Int) × (List Int) × Int × tSystem × tSystem × Unit → Option ((tSystem × Unit) × Unit) := iCountSystem_F.D V iCountSystem_c 4
theorem iCountSystem_b : iCountSystem_d () = cnd (both (inb2 (0 : Int) (11 : Int) (11 : Int)) (fits (11 : Int) 1)) none none := (FnD.eq V iCountSystem_c iCountSystem_F ()).trans (by kernel_rfl)
theorem iCountSystem_q4 (x1 : (List Int)) (x2 : (List Int)) (x3 : Int) (x4 : tSystem) (x5 : tSystem) : iCountSystem_D4 (x1, (x2, (x3, (x4, (x5, ()))))) = cnd (ilt x3 (8 : Int)) (cnd (nn (iconv .u64 x3)) (cnd (inb (iadd .i64 (3 : Int) x3) (len x1)) (cnd (inb (iadd .i64 (3 : Int) x3) (len x2)) (bnd (iUnit_d (x5.1, ((iadd .i64 (3 : Int) x3), ()))) (fun r5 => (bnd (iUnit_d (x5.1, ((iadd .i64 (3 : Int) x3), ()))) (fun r6 => (bnd (iUnit_d (x5.1, ((iadd .i64 (3 : Int) x3), ()))) (fun r7 => none)))))) none) none) none) (bnd (iUnit_d (x5.1, ((0 : Int), ()))) (fun r5 => (bnd (iUnit_d (x5.1, ((1 : Int), ()))) (fun r6 => none)))) := (FnD.eqC V iCountSystem_c iCountSystem_F 4 (x1, (x2, (x3, (x4, (x5, ())))))).trans (by kernel_rfl)
theorem iCountSystem_k : CallsOk Try.prog gls gvs 42 iCountSystem_g := FnD.ok (F := iCountSystem_F) (cs := iCountSystem_c) V_ok (kC iUnit_k kN) Try.func42 (by decide) (by kernel_rfl)
-- impl.isScalar
noncomputable def iIsScalar_F : FnD := { f := 85, fn := Try.f85, ps := [pa (.int .i64)], rs := [rt .bool] }
noncomputable def iIsScalar_c : List (Nat × Sig) := []
noncomputable def iIsScalar_d : Int × Unit → Option ((Bool × Unit) × Unit) := iIsScalar_F.d V iIsScalar_c
noncomputable abbrev iIsScalar_g : Sig := iIsScalar_F.t.sig iIsScalar_d
theorem iIsScalar_b (x1 : Int) : iIsScalar_d (x1, ()) = cnd (ige x1 (0 : Int)) (some (((ilt x1 (1009 : Int)), ()), ())) (some ((false, ()), ())) := (FnD.eq V iIsScalar_c iIsScalar_F (x1, ())).trans (by kernel_rfl)
theorem iIsScalar_k : CallsOk Try.prog gls gvs 85 iIsScalar_g := FnD.ok (F := iIsScalar_F) (cs := iIsScalar_c) V_ok kN Try.func85 (by decide) (by kernel_rfl)
-- impl.areScalars
noncomputable def iAreScalars_F : FnD := { f := 103, fn := Try.f103, ps := [pa (.sl (.int .i64))], rs := [rt .bool], cuts := [(2, [.val 5 (.sl (.int .i64)) .sh, .val 6 (.int .i64) .sh, .val 7 (.int .i64) .sh])] }
noncomputable def iAreScalars_c : List (Nat × Sig) := [(85, iIsScalar_g)]
noncomputable def iAreScalars_d : (List Int) × Unit → Option ((Bool × Unit) × Unit) := iAreScalars_F.d V iAreScalars_c
noncomputable abbrev iAreScalars_g : Sig := iAreScalars_F.t.sig iAreScalars_d
noncomputable def iAreScalars_D2 : (List Int) × Int × Int × Unit → Option ((Bool × Unit) × Unit) := iAreScalars_F.D V iAreScalars_c 2
theorem iAreScalars_b (x1 : (List Int)) : iAreScalars_d (x1, ()) = iAreScalars_D2 (x1, ((len x1), ((0 : Int), ()))) := (FnD.eq V iAreScalars_c iAreScalars_F (x1, ())).trans (by kernel_rfl)
theorem iAreScalars_q2 (x1 : (List Int)) (x2 : Int) (x3 : Int) : iAreScalars_D2 (x1, (x2, (x3, ()))) = cnd (ilt x3 x2) (cnd (inb x3 (len x1)) (bnd (iIsScalar_d ((rd (0 : Int) x1 x3), ())) (fun r3 => (cnd (bnot r3.1.1) (some ((false, ()), ())) (iAreScalars_D2 (x1, (x2, ((iadd .i64 x3 (1 : Int)), ()))))))) none) (some ((true, ()), ())) := (FnD.eqC V iAreScalars_c iAreScalars_F 2 (x1, (x2, (x3, ())))).trans (by kernel_rfl)
theorem iAreScalars_k : CallsOk Try.prog gls gvs 103 iAreScalars_g := FnD.ok (F := iAreScalars_F) (cs := iAreScalars_c) V_ok (kC iIsScalar_k kN) Try.func103 (by decide) (by kernel_rfl)
-- impl.SystemOk
noncomputable def iSystemOk_F : FnD := { f := 84, fn := Try.f84, ps := [pa TSystem], rs := [rt .bool], cuts := [(9, [.val 39 (.sl TRow) .sh, .val 40 (.int .i64) .sh, .val 41 (.int .i64) .sh, .val 51 (.sl (.sl (.int .i64))) (.own 0 .sh), .val 52 (.int .i64) .sh, .val 53 (.int .i64) .sh, .box 1 TSystem .sh, .ptr 1 1 0]), (6, [.val 39 (.sl TRow) .sh, .val 40 (.int .i64) .sh, .val 41 (.int .i64) .sh, .box 1 TSystem .sh, .ptr 1 1 0])] }
noncomputable def iSystemOk_c : List (Nat × Sig) := [(103, iAreScalars_g)]
noncomputable def iSystemOk_d : tSystem × Unit → Option ((Bool × Unit) × Unit) := iSystemOk_F.d V iSystemOk_c
noncomputable abbrev iSystemOk_g : Sig := iSystemOk_F.t.sig iSystemOk_d
noncomputable def iSystemOk_D9 : (List tRow) × Int × Int × (List (List Int)) × Int × Int × tSystem × Unit → Option ((Bool × Unit) × Unit) := iSystemOk_F.D V iSystemOk_c 9
noncomputable def iSystemOk_D6 : (List tRow) × Int × Int × tSystem × Unit → Option ((Bool × Unit) × Unit) := iSystemOk_F.D V iSystemOk_c 6
theorem iSystemOk_b (x1 : tSystem) : iSystemOk_d (x1, ()) = cnd (ilt x1.1 (1 : Int)) (some ((false, ()), ())) (cnd (igt x1.1 (20 : Int)) (some ((false, ()), ())) (cnd (ilt x1.2.1 (0 : Int)) (some ((false, ()), ())) (cnd (igt x1.2.1 (isub .i64 x1.1 (1 : Int))) (some ((false, ()), ())) (cnd (ilt (len x1.2.2.1) (1 : Int)) (some ((false, ()), ())) (cnd (igt (len x1.2.2.1) (16 : Int)) (some ((false, ()), ())) (iSystemOk_D6 (x1.2.2.1, ((len x1.2.2.1), ((0 : Int), (x1, ())))))))))) := (FnD.eq V iSystemOk_c iSystemOk_F (x1, ())).trans (by kernel_rfl)
theorem iSystemOk_q9 (x1 : (List tRow)) (x2 : Int) (x3 : Int) (x4 : (List (List Int))) (x5 : Int) (x6 : Int) (x7 : tSystem) : iSystemOk_D9 (x1, (x2, (x3, (x4, (x5, (x6, (x7, ()))))))) = cnd (ilt x6 x5) (cnd (inb x6 (len x4)) (cnd (ine (len (rd ([] : List Int) x4 x6)) x7.1) (some ((false, ()), ())) (bnd (iAreScalars_d ((rd ([] : List Int) x4 x6), ())) (fun r7 => (cnd (bnot r7.1.1) (some ((false, ()), ())) (iSystemOk_D9 (x1, (x2, (x3, (x4, (x5, ((iadd .i64 x6 (1 : Int)), (x7, ())))))))))))) none) (iSystemOk_D6 (x1, (x2, ((iadd .i64 x3 (1 : Int)), (x7, ()))))) := (FnD.eqC V iSystemOk_c iSystemOk_F 9 (x1, (x2, (x3, (x4, (x5, (x6, (x7, ())))))))).trans (by kernel_rfl)
theorem iSystemOk_q6 (x1 : (List tRow)) (x2 : Int) (x3 : Int) (x4 : tSystem) : iSystemOk_D6 (x1, (x2, (x3, (x4, ())))) = cnd (ilt x3 x2) (cnd (inb x3 (len x1)) (iSystemOk_D9 (x1, (x2, (x3, (((rd zRow x1 x3).1 :: ((rd zRow x1 x3).2.1 :: ((rd zRow x1 x3).2.2.1 :: ([] : List (List Int))))), ((len ((rd zRow x1 x3).1 :: ((rd zRow x1 x3).2.1 :: ((rd zRow x1 x3).2.2.1 :: ([] : List (List Int)))))), ((0 : Int), (x4, ())))))))) none) (some ((true, ()), ())) := (FnD.eqC V iSystemOk_c iSystemOk_F 6 (x1, (x2, (x3, (x4, ()))))).trans (by kernel_rfl)
theorem iSystemOk_k : CallsOk Try.prog gls gvs 84 iSystemOk_g := FnD.ok (F := iSystemOk_F) (cs := iSystemOk_c) V_ok (kC iAreScalars_k kN) Try.func84 (by decide) (by kernel_rfl)
-- impl.ToxicOk
noncomputable def iToxicOk_F : FnD := { f := 62, fn := Try.f62, ps := [pa TSystem, pa TToxic], rs := [rt .bool], cuts := [(4, [.val 28 (.sl (.int .i64)) (.own 0 .sh), .val 29 (.int .i64) .sh, .val 30 (.int .i64) .sh])] }
noncomputable def iToxicOk_c : List (Nat × Sig) := [(84, iSystemOk_g), (85, iIsScalar_g)]
noncomputable def iToxicOk_d : tSystem × tToxic × Unit → Option ((Bool × Unit) × Unit) := iToxicOk_F.d V iToxicOk_c
noncomputable abbrev iToxicOk_g : Sig := iToxicOk_F.t.sig iToxicOk_d
noncomputable def iToxicOk_D4 : (List Int) × Int × Int × Unit → Option ((Bool × Unit) × Unit) := iToxicOk_F.D V iToxicOk_c 4
theorem iToxicOk_b (x1 : tSystem) (x2 : tToxic) : iToxicOk_d (x1, (x2, ())) = bnd (iSystemOk_d (x1, ())) (fun r2 => (cnd (bnot r2.1.1) (some ((false, ()), ())) (cnd (ile x2.1 (len x1.2.2.1)) (some ((false, ()), ())) (iToxicOk_D4 ((x2.1 :: (x2.2.1 :: (x2.2.2.1 :: (x2.2.2.2.1 :: (x2.2.2.2.2.1 :: ([] : List Int)))))), ((len (x2.1 :: (x2.2.1 :: (x2.2.2.1 :: (x2.2.2.2.1 :: (x2.2.2.2.2.1 :: ([] : List Int))))))), ((0 : Int), ()))))))) := (FnD.eq V iToxicOk_c iToxicOk_F (x1, (x2, ()))).trans (by kernel_rfl)
theorem iToxicOk_q4 (x1 : (List Int)) (x2 : Int) (x3 : Int) : iToxicOk_D4 (x1, (x2, (x3, ()))) = cnd (ilt x3 x2) (cnd (inb x3 (len x1)) (cnd (ilt (rd (0 : Int) x1 x3) (1 : Int)) (some ((false, ()), ())) (bnd (iIsScalar_d ((rd (0 : Int) x1 x3), ())) (fun r3 => (cnd (bnot r3.1.1) (some ((false, ()), ())) (iToxicOk_D4 (x1, (x2, ((iadd .i64 x3 (1 : Int)), ())))))))) none) (some ((true, ()), ())) := (FnD.eqC V iToxicOk_c iToxicOk_F 4 (x1, (x2, (x3, ())))).trans (by kernel_rfl)
theorem iToxicOk_k : CallsOk Try.prog gls gvs 62 iToxicOk_g := FnD.ok (F := iToxicOk_F) (cs := iToxicOk_c) V_ok (kC iSystemOk_k (kC iIsScalar_k kN)) Try.func62 (by decide) (by kernel_rfl)
-- impl.ScOf
noncomputable def iScOf_F : FnD := { f := 88, fn := Try.f88, ps := [pa (.int .i64)], rs := [rt (.int .i64)] }
noncomputable def iScOf_c : List (Nat × Sig) := [(106, iRemainder_g)]
noncomputable def iScOf_d : Int × Unit → Option ((Int × Unit) × Unit) := iScOf_F.d V iScOf_c
noncomputable abbrev iScOf_g : Sig := iScOf_F.t.sig iScOf_d
theorem iScOf_b (x1 : Int) : iScOf_d (x1, ()) = bnd (iRemainder_d (x1, ((1009 : Int), ()))) (fun r1 => (some ((r1.1.1, ()), ()))) := (FnD.eq V iScOf_c iScOf_F (x1, ())).trans (by kernel_rfl)
theorem iScOf_k : CallsOk Try.prog gls gvs 88 iScOf_g := FnD.ok (F := iScOf_F) (cs := iScOf_c) V_ok (kC iRemainder_k kN) Try.func88 (by decide) (by kernel_rfl)
-- impl.ScMul
noncomputable def iScMul_F : FnD := { f := 67, fn := Try.f67, ps := [pa (.int .i64), pa (.int .i64)], rs := [rt (.int .i64)] }
noncomputable def iScMul_c : List (Nat × Sig) := [(88, iScOf_g)]
noncomputable def iScMul_d : Int × Int × Unit → Option ((Int × Unit) × Unit) := iScMul_F.d V iScMul_c
noncomputable abbrev iScMul_g : Sig := iScMul_F.t.sig iScMul_d
theorem iScMul_b (x1 : Int) (x2 : Int) : iScMul_d (x1, (x2, ())) = bnd (iScOf_d (x1, ())) (fun r2 => (bnd (iScOf_d (x2, ())) (fun r3 => (bnd (iScOf_d ((imul .i64 r2.1.1 r3.1.1), ())) (fun r4 => (some ((r4.1.1, ()), ()))))))) := (FnD.eq V iScMul_c iScMul_F (x1, (x2, ()))).trans (by kernel_rfl)
theorem iScMul_k : CallsOk Try.prog gls gvs 67 iScMul_g := FnD.ok (F := iScMul_F) (cs := iScMul_c) V_ok (kC iScOf_k kN) Try.func67 (by decide) (by kernel_rfl)
-- impl.ScAdd
noncomputable def iScAdd_F : FnD := { f := 90, fn := Try.f90, ps := [pa (.int .i64), pa (.int .i64)], rs := [rt (.int .i64)] }
noncomputable def iScAdd_c : List (Nat × Sig) := [(88, iScOf_g)]
noncomputable def iScAdd_d : Int × Int × Unit → Option ((Int × Unit) × Unit) := iScAdd_F.d V iScAdd_c
noncomputable abbrev iScAdd_g : Sig := iScAdd_F.t.sig iScAdd_d
theorem iScAdd_b (x1 : Int) (x2 : Int) : iScAdd_d (x1, (x2, ())) = bnd (iScOf_d (x1, ())) (fun r2 => (bnd (iScOf_d (x2, ())) (fun r3 => (bnd (iScOf_d ((iadd .i64 r2.1.1 r3.1.1), ())) (fun r4 => (some ((r4.1.1, ()), ()))))))) := (FnD.eq V iScAdd_c iScAdd_F (x1, (x2, ()))).trans (by kernel_rfl)
theorem iScAdd_k : CallsOk Try.prog gls gvs 90 iScAdd_g := FnD.ok (F := iScAdd_F) (cs := iScAdd_c) V_ok (kC iScOf_k kN) Try.func90 (by decide) (by kernel_rfl)
-- impl.PolyTrim
noncomputable def iPolyTrim_F : FnD := { f := 108, fn := Try.f108, ps := [pa (.sl (.int .i64))], rs := [⟨(.sl (.int .i64)), (.own 0 .sh), false⟩], cuts := [(3, [.val 3 (.sl (.int .i64)) (.own 0 .sh), .val 6 (.sl (.int .i64)) .sh, .val 7 (.int .i64) .sh, .val 8 (.int .i64) .sh]), (7, [.val 3 (.sl (.int .i64)) (.own 0 .sh)])] }
noncomputable def iPolyTrim_c : List (Nat × Sig) := [(88, iScOf_g)]
noncomputable def iPolyTrim_d : (List Int) × Unit → Option (((List Int) × Unit) × Unit) := iPolyTrim_F.d V iPolyTrim_c
noncomputable abbrev iPolyTrim_g : Sig := iPolyTrim_F.t.sig iPolyTrim_d
noncomputable def iPolyTrim_D3 : (List Int) × (List Int) × Int × Int × Unit → Option (((List Int) × Unit) × Unit) := iPolyTrim_F.D V iPolyTrim_c 3
noncomputable def iPolyTrim_D7 : (List Int) × Unit → Option (((List Int) × Unit) × Unit) := iPolyTrim_F.D V iPolyTrim_c 7
theorem iPolyTrim_b (x1 : (List Int)) : iPolyTrim_d (x1, ()) = iPolyTrim_D3 (([] : List Int), (x1, ((len x1), ((0 : Int), ())))) := (FnD.eq V iPolyTrim_c iPolyTrim_F (x1, ())).trans (by kernel_rfl)
theorem iPolyTrim_q3 (x1 : (List Int)) (x2 : (List Int)) (x3 : Int) (x4 : Int) : iPolyTrim_D3 (x1, (x2, (x3, (x4, ())))) = cnd (ilt x4 x3) (cnd (inb x4 (len x2)) (bnd (iScOf_d ((rd (0 : Int) x2 x4), ())) (fun r4 => (cnd (fits ((len x1) + (len (r4.1.1 :: ([] : List Int)))) 1) (iPolyTrim_D3 ((app x1 (r4.1.1 :: ([] : List Int))), (x2, (x3, ((iadd .i64 x4 (1 : Int)), ()))))) none))) none) (iPolyTrim_D7 (x1, ())) := (FnD.eqC V iPolyTrim_c iPolyTrim_F 3 (x1, (x2, (x3, (x4, ()))))).trans (by kernel_rfl)
theorem iPolyTrim_q7 (x1 : (List Int)) : iPolyTrim_D7 (x1, ()) = cnd (igt (len x1) (0 : Int)) (cnd (inb (isub .i64 (len x1) (1 : Int)) (len x1)) (cnd (ieq (rd (0 : Int) x1 (isub .i64 (len x1) (1 : Int))) (0 : Int)) (cnd (inb2 (0 : Int) (isub .i64 (len x1) (1 : Int)) (len x1)) (iPolyTrim_D7 ((sub x1 (0 : Int) (isub .i64 (len x1) (1 : Int))), ())) none) (some ((x1, ()), ()))) none) (some ((x1, ()), ())) := (FnD.eqC V iPolyTrim_c iPolyTrim_F 7 (x1, ())).trans (by kernel_rfl)
theorem iPolyTrim_k : CallsOk Try.prog gls gvs 108 iPolyTrim_g := FnD.ok (F := iPolyTrim_F) (cs := iPolyTrim_c) V_ok (kC iScOf_k kN) Try.func108 (by decide) (by kernel_rfl)
-- impl.PolyMul
noncomputable def iPolyMul_F : FnD := { f := 92, fn := Try.f92, ps := [pa (.sl (.int .i64)), pa (.sl (.int .i64))], rs := [⟨(.sl (.int .i64)), (.own 0 .sh), false⟩], cuts := [(8, [.val 1 (.sl (.int .i64)) .sh, .val 5 (.sl (.int .i64)) (.own 0 .sh), .val 6 (.int .i64) .sh, .val 7 (.int .i64) .sh, .val 24 (.sl (.int .i64)) .sh, .val 25 (.int .i64) .sh, .val 26 (.int .i64) .sh, .val 31 (.sl (.int .i64)) .sh, .val 32 (.int .i64) .sh, .val 33 (.int .i64) .sh]), (5, [.val 1 (.sl (.int .i64)) .sh, .val 5 (.sl (.int .i64)) (.own 0 .sh), .val 24 (.sl (.int .i64)) .sh, .val 25 (.int .i64) .sh, .val 26 (.int .i64) .sh])] }
noncomputable def iPolyMul_c : List (Nat × Sig) := [(67, iScMul_g), (90, iScAdd_g), (108, iPolyTrim_g)]
noncomputable def iPolyMul_d : (List Int) × (List Int) × Unit → Option (((List Int) × Unit) × Unit) := iPolyMul_F.d V iPolyMul_c
noncomputable abbrev iPolyMul_g : Sig := iPolyMul_F.t.sig iPolyMul_d
noncomputable def iPolyMul_D8 : (List Int) × (List Int) × Int × Int × (List Int) × Int × Int × (List Int) × Int × Int × Unit → Option (((List Int) × Unit) × Unit) := iPolyMul_F.D V iPolyMul_c 8
noncomputable def iPolyMul_D5 : (List Int) × (List Int) × (List Int) × Int × Int × Unit → Option (((List Int) × Unit) × Unit) := iPolyMul_F.D V iPolyMul_c 5
theorem iPolyMul_b (x1 : (List Int)) (x2 : (List Int)) : iPolyMul_d (x1, (x2, ())) = cnd (igt (len x1) (64 : Int)) (some ((([] : List Int), ()), ())) (cnd (igt (len x2) (64 : Int)) (some ((([] : List Int), ()), ())) (cnd (both (inb2 (0 : Int) (iadd .i64 (len x1) (len x2)) (iadd .i64 (len x1) (len x2))) (fits (iadd .i64 (len x1) (len x2)) 1)) (iPolyMul_D5 (x2, ((rep (iadd .i64 (len x1) (len x2)) (0 : Int)), (x1, ((len x1), ((0 : Int), ())))))) none)) := (FnD.eq V iPolyMul_c iPolyMul_F (x1, (x2, ()))).trans (by kernel_rfl)
theorem iPolyMul_q8 (x1 : (List Int)) (x2 : (List Int)) (x3 : Int) (x4 : Int) (x5 : (List Int)) (x6 : Int) (x7 : Int) (x8 : (List Int)) (x9 : Int) (x10 : Int) : iPolyMul_D8 (x1, (x2, (x3, (x4, (x5, (x6, (x7, (x8, (x9, (x10, ())))))))))) = cnd (ilt x10 x9) (cnd (inb x10 (len x8)) (cnd (inb (iadd .i64 x3 x10) (len x2)) (bnd (iScMul_d (x4, ((rd (0 : Int) x8 x10), ()))) (fun r10 => (bnd (iScAdd_d ((rd (0 : Int) x2 (iadd .i64 x3 x10)), (r10.1.1, ()))) (fun r11 => (cnd (inb (iadd .i64 x3 x10) (len x2)) (iPolyMul_D8 (x1, ((upd x2 (iadd .i64 x3 x10) r11.1.1), (x3, (x4, (x5, (x6, (x7, (x8, (x9, ((iadd .i64 x10 (1 : Int)), ()))))))))))) none))))) none) none) (iPolyMul_D5 (x1, (x2, (x5, (x6, ((iadd .i64 x7 (1 : Int)), ())))))) := (FnD.eqC V iPolyMul_c iPolyMul_F 8 (x1, (x2, (x3, (x4, (x5, (x6, (x7, (x8, (x9, (x10, ()))))))))))).trans (by kernel_rfl)
theorem iPolyMul_q5 (x1 : (List Int)) (x2 : (List Int)) (x3 : (List Int)) (x4 : Int) (x5 : Int) : iPolyMul_D5 (x1, (x2, (x3, (x4, (x5, ()))))) = cnd (ilt x5 x4) (cnd (inb x5 (len x3)) (iPolyMul_D8 (x1, (x2, (x5, ((rd (0 : Int) x3 x5), (x3, (x4, (x5, (x1, ((len x1), ((0 : Int), ()))))))))))) none) (bnd (iPolyTrim_d (x2, ())) (fun r5 => (some ((r5.1.1, ()), ())))) := (FnD.eqC V iPolyMul_c iPolyMul_F 5 (x1, (x2, (x3, (x4, (x5, ())))))).trans (by kernel_rfl)
theorem iPolyMul_k : CallsOk Try.prog gls gvs 92 iPolyMul_g := FnD.ok (F := iPolyMul_F) (cs := iPolyMul_c) V_ok (kC iScMul_k (kC iScAdd_k (kC iPolyTrim_k kN))) Try.func92 (by decide) (by kernel_rfl)
-- impl.ScInv
noncomputable def iScInv_F : FnD := { f := 68, fn := Try.f68, ps := [pa (.int .i64)], rs := [rt (.int .i64)] }
noncomputable def iScInv_c : List (Nat × Sig) := [(91, iPowerMod_g)]
noncomputable def iScInv_d : Int × Unit → Option ((Int × Unit) × Unit) := iScInv_F.d V iScInv_c
noncomputable abbrev iScInv_g : Sig := iScInv_F.t.sig iScInv_d
theorem iScInv_b (x1 : Int) : iScInv_d (x1, ()) = bnd (iPowerMod_d (x1, ((1007 : Int), ((1009 : Int), ())))) (fun r1 => (some ((r1.1.1, ()), ()))) := (FnD.eq V iScInv_c iScInv_F (x1, ())).trans (by kernel_rfl)
theorem iScInv_k : CallsOk Try.prog gls gvs 68 iScInv_g := FnD.ok (F := iScInv_F) (cs := iScInv_c) V_ok (kC iPowerMod_k kN) Try.func68 (by decide) (by kernel_rfl)
-- impl.scaled
noncomputable def iScaled_F : FnD := { f := 105, fn := Try.f105, ps := [pa (.sl (.int .i64)), pa (.int .i64)], rs := [⟨(.sl (.int .i64)), (.own 0 .sh), false⟩], cuts := [(3, [.val 1 (.int .i64) .sh, .val 5 (.sl (.int .i64)) (.own 0 .sh), .val 11 (.sl (.int .i64)) .sh, .val 12 (.int .i64) .sh, .val 13 (.int .i64) .sh])] }
noncomputable def iScaled_c : List (Nat × Sig) := [(67, iScMul_g)]
noncomputable def iScaled_d : (List Int) × Int × Unit → Option (((List Int) × Unit) × Unit) := iScaled_F.d V iScaled_c
noncomputable abbrev iScaled_g : Sig := iScaled_F.t.sig iScaled_d
noncomputable def iScaled_D3 : Int × (List Int) × (List Int) × Int × Int × Unit → Option (((List Int) × Unit) × Unit) := iScaled_F.D V iScaled_c 3
theorem iScaled_b (x1 : (List Int)) (x2 : Int) : iScaled_d (x1, (x2, ())) = cnd (both (inb2 (0 : Int) (len x1) (len x1)) (fits (len x1) 1)) (iScaled_D3 (x2, ((rep (len x1) (0 : Int)), (x1, ((len x1), ((0 : Int), ())))))) none := (FnD.eq V iScaled_c iScaled_F (x1, (x2, ()))).trans (by kernel_rfl)
theorem iScaled_q3 (x1 : Int) (x2 : (List Int)) (x3 : (List Int)) (x4 : Int) (x5 : Int) : iScaled_D3 (x1, (x2, (x3, (x4, (x5, ()))))) = cnd (ilt x5 x4) (cnd (inb x5 (len x3)) (bnd (iScMul_d ((rd (0 : Int) x3 x5), (x1, ()))) (fun r5 => (cnd (inb x5 (len x2)) (iScaled_D3 (x1, ((upd x2 x5 r5.1.1), (x3, (x4, ((iadd .i64 x5 (1 : Int)), ())))))) none))) none) (some ((x2, ()), ())) := (FnD.eqC V iScaled_c iScaled_F 3 (x1, (x2, (x3, (x4, (x5, ())))))).trans (by kernel_rfl)
theorem iScaled_k : CallsOk Try.prog gls gvs 105 iScaled_g := FnD.ok (F := iScaled_F) (cs := iScaled_c) V_ok (kC iScMul_k kN) Try.func105 (by decide) (by kernel_rfl)
-- impl.PolyAdd
noncomputable def iPolyAdd_F : FnD := { f := 104, fn := Try.f104, ps := [pa (.sl (.int .i64)), pa (.sl (.int .i64))], rs := [⟨(.sl (.int .i64)), (.own 0 .sh), false⟩], cuts := [(3, [.val 1 (.sl (.int .i64)) .sh, .val 5 (.sl (.int .i64)) (.own 0 .sh), .val 16 (.sl (.int .i64)) .sh, .val 17 (.int .i64) .sh, .val 18 (.int .i64) .sh]), (8, [.val 5 (.sl (.int .i64)) (.own 0 .sh), .val 29 (.sl (.int .i64)) .sh, .val 30 (.int .i64) .sh, .val 31 (.int .i64) .sh])] }
noncomputable def iPolyAdd_c : List (Nat × Sig) := [(88, iScOf_g), (90, iScAdd_g), (108, iPolyTrim_g)]
noncomputable def iPolyAdd_d : (List Int) × (List Int) × Unit → Option (((List Int) × Unit) × Unit) := iPolyAdd_F.d V iPolyAdd_c
noncomputable abbrev iPolyAdd_g : Sig := iPolyAdd_F.t.sig iPolyAdd_d
noncomputable def iPolyAdd_D3 : (List Int) × (List Int) × (List Int) × Int × Int × Unit → Option (((List Int) × Unit) × Unit) := iPolyAdd_F.D V iPolyAdd_c 3
noncomputable def iPolyAdd_D8 : (List Int) × (List Int) × Int × Int × Unit → Option (((List Int) × Unit) × Unit) := iPolyAdd_F.D V iPolyAdd_c 8
theorem iPolyAdd_b (x1 : (List Int)) (x2 : (List Int)) : iPolyAdd_d (x1, (x2, ())) = cnd (both (inb2 (0 : Int) (imax (len x1) (len x2)) (imax (len x1) (len x2))) (fits (imax (len x1) (len x2)) 1)) (iPolyAdd_D3 (x2, ((rep (imax (len x1) (len x2)) (0 : Int)), (x1, ((len x1), ((0 : Int), ())))))) none := (FnD.eq V iPolyAdd_c iPolyAdd_F (x1, (x2, ()))).trans (by kernel_rfl)
theorem iPolyAdd_q3 (x1 : (List Int)) (x2 : (List Int)) (x3 : (List Int)) (x4 : Int) (x5 : Int) : iPolyAdd_D3 (x1, (x2, (x3, (x4, (x5, ()))))) = cnd (ilt x5 x4) (cnd (inb x5 (len x3)) (bnd (iScOf_d ((rd (0 : Int) x3 x5), ())) (fun r5 => (cnd (inb x5 (len x2)) (iPolyAdd_D3 (x1, ((upd x2 x5 r5.1.1), (x3, (x4, ((iadd .i64 x5 (1 : Int)), ())))))) none))) none) (iPolyAdd_D8 (x2, (x1, ((len x1), ((0 : Int), ()))))) := (FnD.eqC V iPolyAdd_c iPolyAdd_F 3 (x1, (x2, (x3, (x4, (x5, ())))))).trans (by kernel_rfl)
theorem iPolyAdd_q8 (x1 : (List Int)) (x2 : (List Int)) (x3 : Int) (x4 : Int) : iPolyAdd_D8 (x1, (x2, (x3, (x4, ())))) = cnd (ilt x4 x3) (cnd (inb x4 (len x2)) (cnd (inb x4 (len x1)) (bnd (iScAdd_d ((rd (0 : Int) x1 x4), ((rd (0 : Int) x2 x4), ()))) (fun r4 => (cnd (inb x4 (len x1)) (iPolyAdd_D8 ((upd x1 x4 r4.1.1), (x2, (x3, ((iadd .i64 x4 (1 : Int)), ()))))) none))) none) none) (bnd (iPolyTrim_d (x1, ())) (fun r4 => (some ((r4.1.1, ()), ())))) := (FnD.eqC V iPolyAdd_c iPolyAdd_F 8 (x1, (x2, (x3, (x4, ()))))).trans (by kernel_rfl)
theorem iPolyAdd_k : CallsOk Try.prog gls gvs 104 iPolyAdd_g := FnD.ok (F := iPolyAdd_F) (cs := iPolyAdd_c) V_ok (kC iScOf_k (kC iScAdd_k (kC iPolyTrim_k kN))) Try.func104 (by decide) (by kernel_rfl)
-- impl.PolyThrough
noncomputable def iPolyThrough_F : FnD := { f := 86, fn := Try.f86, ps := [pa (.sl (.int .i64))], rs := [⟨(.sl (.int .i64)), (.own 0 .sh), false⟩], cuts := [(9, [.val 0 (.sl (.int .i64)) .sh, .val 3 (.sl (.int .i64)) (.own 0 .sh), .val 4 (.int .i64) .sh, .val 5 (.int .i64) .sh, .val 6 (.sl (.int .i64)) (.own 0 .sh), .val 7 (.int .i64) .sh, .val 12 (.sl (.int .i64)) .sh, .val 13 (.int .i64) .sh, .val 14 (.int .i64) .sh, .val 21 (.int .i64) .sh, .val 22 (.int .i64) .sh]), (5, [.val 0 (.sl (.int .i64)) .sh, .val 3 (.sl (.int .i64)) (.own 0 .sh), .val 12 (.sl (.int .i64)) .sh, .val 13 (.int .i64) .sh, .val 14 (.int .i64) .sh])] }
noncomputable def iPolyThrough_c : List (Nat × Sig) := [(92, iPolyMul_g), (67, iScMul_g), (68, iScInv_g), (105, iScaled_g), (104, iPolyAdd_g)]
noncomputable def iPolyThrough_d : (List Int) × Unit → Option (((List Int) × Unit) × Unit) := iPolyThrough_F.d V iPolyThrough_c
noncomputable abbrev iPolyThrough_g : Sig := iPolyThrough_F.t.sig iPolyThrough_d
noncomputable def iPolyThrough_D9 : (List Int) × (List Int) × Int × Int × (List Int) × Int × (List Int) × Int × Int × Int × Int × Unit → Option (((List Int) × Unit) × Unit) := iPolyThrough_F.D V iPolyThrough_c 9
noncomputable def iPolyThrough_D5 : (List Int) × (List Int) × (List Int) × Int × Int × Unit → Option (((List Int) × Unit) × Unit) := iPolyThrough_F.D V iPolyThrough_c 5
theorem iPolyThrough_b (x1 : (List Int)) : iPolyThrough_d (x1, ()) = cnd (igt (len x1) (16 : Int)) (some ((([] : List Int), ()), ())) (iPolyThrough_D5 (x1, (([] : List Int), (x1, ((len x1), ((0 : Int), ())))))) := (FnD.eq V iPolyThrough_c iPolyThrough_F (x1, ())).trans (by kernel_rfl)
theorem iPolyThrough_q9 (x1 : (List Int)) (x2 : (List Int)) (x3 : Int) (x4 : Int) (x5 : (List Int)) (x6 : Int) (x7 : (List Int)) (x8 : Int) (x9 : Int) (x10 : Int) (x11 : Int) : iPolyThrough_D9 (x1, (x2, (x3, (x4, (x5, (x6, (x7, (x8, (x9, (x10, (x11, ()))))))))))) = cnd (ilt x11 x10) (cnd (ine x11 x3) (bnd (iPolyMul_d (x5, (((ineg .i64 (iadd .i64 x11 (1 : Int))) :: ((1 : Int) :: ([] : List Int))), ()))) (fun r11 => (bnd (iScMul_d (x6, ((isub .i64 x3 x11), ()))) (fun r12 => (iPolyThrough_D9 (x1, (x2, (x3, (x4, (r11.1.1, (r12.1.1, (x7, (x8, (x9, (x10, ((iadd .i64 x11 (1 : Int)), ())))))))))))))))) (iPolyThrough_D9 (x1, (x2, (x3, (x4, (x5, (x6, (x7, (x8, (x9, (x10, ((iadd .i64 x11 (1 : Int)), ()))))))))))))) (bnd (iScInv_d (x6, ())) (fun r11 => (bnd (iScMul_d (x4, (r11.1.1, ()))) (fun r12 => (bnd (iScaled_d (x5, (r12.1.1, ()))) (fun r13 => (bnd (iPolyAdd_d (x2, (r13.1.1, ()))) (fun r14 => (iPolyThrough_D5 (x1, (r14.1.1, (x7, (x8, ((iadd .i64 x9 (1 : Int)), ())))))))))))))) := (FnD.eqC V iPolyThrough_c iPolyThrough_F 9 (x1, (x2, (x3, (x4, (x5, (x6, (x7, (x8, (x9, (x10, (x11, ())))))))))))).trans (by kernel_rfl)
theorem iPolyThrough_q5 (x1 : (List Int)) (x2 : (List Int)) (x3 : (List Int)) (x4 : Int) (x5 : Int) : iPolyThrough_D5 (x1, (x2, (x3, (x4, (x5, ()))))) = cnd (ilt x5 x4) (cnd (inb x5 (len x3)) (iPolyThrough_D9 (x1, (x2, (x5, ((rd (0 : Int) x3 x5), (((1 : Int) :: ([] : List Int)), ((1 : Int), (x3, (x4, (x5, ((len x1), ((0 : Int), ())))))))))))) none) (some ((x2, ()), ())) := (FnD.eqC V iPolyThrough_c iPolyThrough_F 5 (x1, (x2, (x3, (x4, (x5, ())))))).trans (by kernel_rfl)
theorem iPolyThrough_k : CallsOk Try.prog gls gvs 86 iPolyThrough_g := FnD.ok (F := iPolyThrough_F) (cs := iPolyThrough_c) V_ok (kC iPolyMul_k (kC iScMul_k (kC iScInv_k (kC iScaled_k (kC iPolyAdd_k kN))))) Try.func86 (by decide) (by kernel_rfl)
-- impl.QapOf
noncomputable def iQapOf_F : FnD := { f := 63, fn := Try.f63, ps := [pa TSystem], rs := [⟨TQap, (.pr (.own 0 (.own 0 .sh)) (.pr (.own 0 (.own 0 .sh)) (.pr (.own 0 (.own 0 .sh)) .sh))), false⟩, rt .bool], cuts := [(9, [.val 5 (.int .i64) .sh, .val 6 (.sl (.int .i64)) (.own 0 .sh), .val 7 (.sl (.int .i64)) (.own 0 .sh), .val 8 (.sl (.int .i64)) (.own 0 .sh), .val 16 (.int .i64) .sh, .val 17 (.int .i64) .sh, .val 21 (.sl TRow) .sh, .val 22 (.int .i64) .sh, .val 23 (.int .i64) .sh, .box 1 TSystem .sh, .box 2 TQap (.pr (.own 0 (.own 0 .sh)) (.pr (.own 0 (.own 0 .sh)) (.pr (.own 0 (.own 0 .sh)) .sh))), .box 4 TQap (.pr (.own 0 (.own 0 .sh)) (.pr (.own 0 (.own 0 .sh)) (.pr (.own 0 (.own 0 .sh)) .sh))), .ptr 1 1 0, .ptr 2 2 0, .ptr 4 4 0]), (5, [.val 16 (.int .i64) .sh, .val 17 (.int .i64) .sh, .box 1 TSystem .sh, .box 2 TQap (.pr (.own 0 (.own 0 .sh)) (.pr (.own 0 (.own 0 .sh)) (.pr (.own 0 (.own 0 .sh)) .sh))), .box 4 TQap (.pr (.own 0 (.own 0 .sh)) (.pr (.own 0 (.own 0 .sh)) (.pr (.own 0 (.own 0 .sh)) .sh))), .ptr 1 1 0, .ptr 2 2 0, .ptr 4 4 0])] }
noncomputable def iQapOf_c : List (Nat × Sig) := [(84, iSystemOk_g), (86, iPolyThrough_g)]
noncomputable def iQapOf_d : tSystem × Unit → Option ((tQap × Bool × Unit) × Unit) := iQapOf_F.d V iQapOf_c
noncomputable abbrev iQapOf_g : Sig := iQapOf_F.t.sig iQapOf_d
noncomputable def iQapOf_D9 : Int × (List Int) × (List Int) × (List Int) × Int × Int × (List tRow) × Int × Int × tSystem × tQap × tQap × Unit → Option ((tQap × Bool × Unit) × Unit) := iQapOf_F.D V iQapOf_c 9
noncomputable def iQapOf_D5 : Int × Int × tSystem × tQap × tQap × Unit → Option ((tQap × Bool × Unit) × Unit) := iQapOf_F.D V iQapOf_c 5
theorem iQapOf_b (x1 : tSystem) : iQapOf_d (x1, ()) = bnd (iSystemOk_d (x1, ())) (fun r1 => (cnd (bnot r1.1.1) (some ((zQap, (false, ())), ())) (iQapOf_D5 (x1.1, ((0 : Int), (x1, (zQap, (zQap, ())))))))) := (FnD.eq V iQapOf_c iQapOf_F (x1, ())).trans (by kernel_rfl)
theorem iQapOf_q9 (x1 : Int) (x2 : (List Int)) (x3 : (List Int)) (x4 : (List Int)) (x5 : Int) (x6 : Int) (x7 : (List tRow)) (x8 : Int) (x9 : Int) (x10 : tSystem) (x11 : tQap) (x12 : tQap) : iQapOf_D9 (x1, (x2, (x3, (x4, (x5, (x6, (x7, (x8, (x9, (x10, (x11, (x12, ())))))))))))) = cnd (ilt x9 x8) (cnd (inb x9 (len x7)) (cnd (inb x1 (len (rd zRow x7 x9).1)) (cnd (fits ((len x2) + (len ((rd (0 : Int) (rd zRow x7 x9).1 x1) :: ([] : List Int)))) 1) (cnd (inb x1 (len (rd zRow x7 x9).2.1)) (cnd (fits ((len x3) + (len ((rd (0 : Int) (rd zRow x7 x9).2.1 x1) :: ([] : List Int)))) 1) (cnd (inb x1 (len (rd zRow x7 x9).2.2.1)) (cnd (fits ((len x4) + (len ((rd (0 : Int) (rd zRow x7 x9).2.2.1 x1) :: ([] : List Int)))) 1) (iQapOf_D9 (x1, ((app x2 ((rd (0 : Int) (rd zRow x7 x9).1 x1) :: ([] : List Int))), ((app x3 ((rd (0 : Int) (rd zRow x7 x9).2.1 x1) :: ([] : List Int))), ((app x4 ((rd (0 : Int) (rd zRow x7 x9).2.2.1 x1) :: ([] : List Int))), (x5, (x6, (x7, (x8, ((iadd .i64 x9 (1 : Int)), (x10, (x11, (x12, ()))))))))))))) none) none) none) none) none) none) none) (bnd (iPolyThrough_d (x2, ())) (fun r12 => none)) := (FnD.eqC V iQapOf_c iQapOf_F 9 (x1, (x2, (x3, (x4, (x5, (x6, (x7, (x8, (x9, (x10, (x11, (x12, ()))))))))))))).trans (by kernel_rfl)
theorem iQapOf_q5 (x1 : Int) (x2 : Int) (x3 : tSystem) (x4 : tQap) (x5 : tQap) : iQapOf_D5 (x1, (x2, (x3, (x4, (x5, ()))))) = cnd (ilt x2 x1) (iQapOf_D9 (x2, (([] : List Int), (([] : List Int), (([] : List Int), (x1, (x2, (x3.2.2.1, ((len x3.2.2.1), ((0 : Int), (x3, (x4, (x5, ()))))))))))))) (some ((x5, (true, ())), ())) := (FnD.eqC V iQapOf_c iQapOf_F 5 (x1, (x2, (x3, (x4, (x5, ())))))).trans (by kernel_rfl)
theorem iQapOf_k : CallsOk Try.prog gls gvs 63 iQapOf_g := FnD.ok (F := iQapOf_F) (cs := iQapOf_c) V_ok (kC iSystemOk_k (kC iPolyThrough_k kN)) Try.func63 (by decide) (by kernel_rfl)
-- impl.Base
noncomputable def iBase_F : FnD := { f := 89, fn := Try.f89, ps := [], rs := [rt TPoint] }
noncomputable def iBase_c : List (Nat × Sig) := []
noncomputable def iBase_d : Unit → Option ((tPoint × Unit) × Unit) := iBase_F.d V iBase_c
noncomputable abbrev iBase_g : Sig := iBase_F.t.sig iBase_d
theorem iBase_b : iBase_d () = some ((((8445 : Int), ((859 : Int), (false, ()))), ()), ()) := (FnD.eq V iBase_c iBase_F ()).trans (by kernel_rfl)
theorem iBase_k : CallsOk Try.prog gls gvs 89 iBase_g := FnD.ok (F := iBase_F) (cs := iBase_c) V_ok kN Try.func89 (by decide) (by kernel_rfl)
-- impl.times
noncomputable def iTimes_F : FnD := { f := 64, fn := Try.f64, ps := [pa (.int .i64)], rs := [rt TPoint] }
noncomputable def iTimes_c : List (Nat × Sig) := [(88, iScOf_g), (89, iBase_g), (87, iPointTimes_g)]
noncomputable def iTimes_d : Int × Unit → Option ((tPoint × Unit) × Unit) := iTimes_F.d V iTimes_c
noncomputable abbrev iTimes_g : Sig := iTimes_F.t.sig iTimes_d
theorem iTimes_b (x1 : Int) : iTimes_d (x1, ()) = bnd (iScOf_d (x1, ())) (fun r1 => (bnd (iBase_d ()) (fun r2 => (bnd (iPointTimes_d (r1.1.1, (r2.1.1, ()))) (fun r3 => (some ((r3.1.1, ()), ()))))))) := (FnD.eq V iTimes_c iTimes_F (x1, ())).trans (by kernel_rfl)
theorem iTimes_k : CallsOk Try.prog gls gvs 64 iTimes_g := FnD.ok (F := iTimes_F) (cs := iTimes_c) V_ok (kC iScOf_k (kC iBase_k (kC iPointTimes_k kN))) Try.func64 (by decide) (by kernel_rfl)
-- impl.PolyAt
noncomputable def iPolyAt_F : FnD := { f := 65, fn := Try.f65, ps := [pa (.sl (.int .i64)), pa (.int .i64)], rs := [rt (.int .i64)], cuts := [(3, [.val 0 (.sl (.int .i64)) .sh, .val 1 (.int .i64) .sh, .val 5 (.int .i64) .sh, .val 6 (.int .i64) .sh])] }
noncomputable def iPolyAt_c : List (Nat × Sig) := [(67, iScMul_g), (90, iScAdd_g)]
noncomputable def iPolyAt_d : (List Int) × Int × Unit → Option ((Int × Unit) × Unit) := iPolyAt_F.d V iPolyAt_c
noncomputable abbrev iPolyAt_g : Sig := iPolyAt_F.t.sig iPolyAt_d
noncomputable def iPolyAt_D3 : (List Int) × Int × Int × Int × Unit → Option ((Int × Unit) × Unit) := iPolyAt_F.D V iPolyAt_c 3
theorem iPolyAt_b (x1 : (List Int)) (x2 : Int) : iPolyAt_d (x1, (x2, ())) = iPolyAt_D3 (x1, (x2, ((0 : Int), ((isub .i64 (len x1) (1 : Int)), ())))) := (FnD.eq V iPolyAt_c iPolyAt_F (x1, (x2, ()))).trans (by kernel_rfl)
theorem iPolyAt_q3 (x1 : (List Int)) (x2 : Int) (x3 : Int) (x4 : Int) : iPolyAt_D3 (x1, (x2, (x3, (x4, ())))) = cnd (ige x4 (0 : Int)) none (some ((x3, ()), ())) := (FnD.eqC V iPolyAt_c iPolyAt_F 3 (x1, (x2, (x3, (x4, ()))))).trans (by kernel_rfl)
theorem iPolyAt_k : CallsOk Try.prog gls gvs 65 iPolyAt_g := FnD.ok (F := iPolyAt_F) (cs := iPolyAt_c) V_ok (kC iScMul_k (kC iScAdd_k kN)) Try.func65 (by decide) (by kernel_rfl)
-- impl.mixOf
noncomputable def iMixOf_F : FnD := { f := 66, fn := Try.f66, ps := [pa TQap, pa TToxic, pa (.int .i64)], rs := [rt (.int .i64)] }
noncomputable def iMixOf_c : List (Nat × Sig) := [(65, iPolyAt_g), (67, iScMul_g), (90, iScAdd_g)]
noncomputable def iMixOf_d : tQap × tToxic × Int × Unit → Option ((Int × Unit) × Unit) := iMixOf_F.d V iMixOf_c
noncomputable abbrev iMixOf_g : Sig := iMixOf_F.t.sig iMixOf_d
theorem iMixOf_b (x1 : tQap) (x2 : tToxic) (x3 : Int) : iMixOf_d (x1, (x2, (x3, ()))) = cnd (inb x3 (len x1.1)) (bnd (iPolyAt_d ((rd ([] : List Int) x1.1 x3), (x2.1, ()))) (fun r3 => (bnd (iScMul_d (x2.2.2.1, (r3.1.1, ()))) (fun r4 => (cnd (inb x3 (len x1.2.1)) (bnd (iPolyAt_d ((rd ([] : List Int) x1.2.1 x3), (x2.1, ()))) (fun r5 => (bnd (iScMul_d (x2.2.1, (r5.1.1, ()))) (fun r6 => (bnd (iScAdd_d (r4.1.1, (r6.1.1, ()))) (fun r7 => (cnd (inb x3 (len x1.2.2.1)) (bnd (iPolyAt_d ((rd ([] : List Int) x1.2.2.1 x3), (x2.1, ()))) (fun r8 => (bnd (iScAdd_d (r7.1.1, (r8.1.1, ()))) (fun r9 => (some ((r9.1.1, ()), ())))))) none))))))) none))))) none := (FnD.eq V iMixOf_c iMixOf_F (x1, (x2, (x3, ())))).trans (by kernel_rfl)
theorem iMixOf_k : CallsOk Try.prog gls gvs 66 iMixOf_g := FnD.ok (F := iMixOf_F) (cs := iMixOf_c) V_ok (kC iPolyAt_k (kC iScMul_k (kC iScAdd_k kN))) Try.func66 (by decide) (by kernel_rfl)
-- impl.PolyZero
noncomputable def iPolyZero_F : FnD := { f := 69, fn := Try.f69, ps := [pa (.int .i64)], rs := [⟨(.sl (.int .i64)), (.own 0 .sh), false⟩], cuts := [(5, [.val 0 (.int .i64) .sh, .val 3 (.sl (.int .i64)) (.own 0 .sh), .val 4 (.int .i64) .sh])] }
noncomputable def iPolyZero_c : List (Nat × Sig) := [(92, iPolyMul_g)]
noncomputable def iPolyZero_d : Int × Unit → Option (((List Int) × Unit) × Unit) := iPolyZero_F.d V iPolyZero_c
noncomputable abbrev iPolyZero_g : Sig := iPolyZero_F.t.sig iPolyZero_d
noncomputable def iPolyZero_D5 : Int × (List Int) × Int × Unit → Option (((List Int) × Unit) × Unit) := iPolyZero_F.D V iPolyZero_c 5
theorem iPolyZero_b (x1 : Int) : iPolyZero_d (x1, ()) = cnd (ilt x1 (0 : Int)) (some ((([] : List Int), ()), ())) (cnd (igt x1 (16 : Int)) (some ((([] : List Int), ()), ())) (iPolyZero_D5 (x1, (((1 : Int) :: ([] : List Int)), ((1 : Int), ()))))) := (FnD.eq V iPolyZero_c iPolyZero_F (x1, ())).trans (by kernel_rfl)
theorem iPolyZero_q5 (x1 : Int) (x2 : (List Int)) (x3 : Int) : iPolyZero_D5 (x1, (x2, (x3, ()))) = cnd (ile x3 x1) (bnd (iPolyMul_d (x2, (((ineg .i64 x3) :: ((1 : Int) :: ([] : List Int))), ()))) (fun r3 => (iPolyZero_D5 (x1, (r3.1.1, ((iadd .i64 x3 (1 : Int)), ())))))) (some ((x2, ()), ())) := (FnD.eqC V iPolyZero_c iPolyZero_F 5 (x1, (x2, (x3, ())))).trans (by kernel_rfl)
theorem iPolyZero_k : CallsOk Try.prog gls gvs 69 iPolyZero_g := FnD.ok (F := iPolyZero_F) (cs := iPolyZero_c) V_ok (kC iPolyMul_k kN) Try.func69 (by decide) (by kernel_rfl)
-- impl.MakeKeys
noncomputable def iMakeKeys_F : FnD := { f := 41, fn := Try.f41, ps := [pa TSystem, pa TToxic], rs := [⟨TMaker, (.pr (.pr .sh (.pr .sh (.pr .sh (.pr .sh (.pr (.own 0 .sh) .sh))))) (.pr (.own 0 .sh) (.pr (.own 0 .sh) (.pr (.own 0 .sh) (.pr (.own 0 .sh) .sh))))), false⟩, rt .bool], cuts := [(6, [.val 37 (.int .i64) .sh, .val 38 (.int .i64) .sh, .box 2 TSystem .sh, .box 3 TToxic .sh, .box 4 TMaker (.pr (.pr .sh (.pr .sh (.pr .sh (.pr .sh (.pr (.own 0 .sh) .sh))))) (.pr (.own 0 .sh) (.pr (.own 0 .sh) (.pr (.own 0 .sh) (.pr (.own 0 .sh) .sh))))), .box 6 TQap (.pr (.own 0 (.own 0 .sh)) (.pr (.own 0 (.own 0 .sh)) (.pr (.own 0 (.own 0 .sh)) .sh))), .box 8 TMaker (.pr (.pr .sh (.pr .sh (.pr .sh (.pr .sh (.pr (.own 0 .sh) .sh))))) (.pr (.own 0 .sh) (.pr (.own 0 .sh) (.pr (.own 0 .sh) (.pr (.own 0 .sh) .sh))))), .ptr 2 2 0, .ptr 3 3 0, .ptr 4 4 0, .ptr 6 6 0, .ptr 8 8 0]), (17, [.val 11 (.int .i64) .sh, .val 116 (.int .i64) .sh, .val 117 (.int .i64) .sh, .box 3 TToxic .sh, .box 4 TMaker (.pr (.pr .sh (.pr .sh (.pr .sh (.pr .sh (.pr (.own 0 .sh) .sh))))) (.pr (.own 0 .sh) (.pr (.own 0 .sh) (.pr (.own 0 .sh) (.pr (.own 0 .sh) .sh))))), .box 8 TMaker (.pr (.pr .sh (.pr .sh (.pr .sh (.pr .sh (.pr (.own 0 .sh) .sh))))) (.pr (.own 0 .sh) (.pr (.own 0 .sh) (.pr (.own 0 .sh) (.pr (.own 0 .sh) .sh))))), .ptr 3 3 0, .ptr 4 4 0, .ptr 8 8 0])] }
noncomputable def iMakeKeys_c : List (Nat × Sig) := [(62, iToxicOk_g), (63, iQapOf_g), (64, iTimes_g), (65, iPolyAt_g), (66, iMixOf_g), (68, iScInv_g), (67, iScMul_g), (69, iPolyZero_g)]
noncomputable def iMakeKeys_d : tSystem × tToxic × Unit → Option ((tMaker × Bool × Unit) × Unit) := iMakeKeys_F.d V iMakeKeys_c
noncomputable abbrev iMakeKeys_g : Sig := iMakeKeys_F.t.sig iMakeKeys_d
noncomputable def iMakeKeys_D6 : Int × Int × tSystem × tToxic × tMaker × tQap × tMaker × Unit → Option ((tMaker × Bool × Unit) × Unit) := iMakeKeys_F.D V iMakeKeys_c 6
noncomputable def iMakeKeys_D17 : Int × Int × Int × tToxic × tMaker × tMaker × Unit → Option ((tMaker × Bool × Unit) × Unit) := iMakeKeys_F.D V iMakeKeys_c 17
theorem iMakeKeys_b (x1 : tSystem) (x2 : tToxic) : iMakeKeys_d (x1, (x2, ())) = bnd (iToxicOk_d (x1, (x2, ()))) (fun r2 => (cnd (bnot r2.1.1) (some ((zMaker, (false, ())), ())) (bnd (iQapOf_d (x1, ())) (fun r3 => (bnd (iTimes_d (x2.2.1, ())) (fun r4 => (bnd (iTimes_d (x2.2.2.1, ())) (fun r5 => (bnd (iTimes_d (x2.2.2.2.1, ())) (fun r6 => (bnd (iTimes_d (x2.2.2.2.2.1, ())) (fun r7 => none)))))))))))) := (FnD.eq V iMakeKeys_c iMakeKeys_F (x1, (x2, ()))).trans (by kernel_rfl)
theorem iMakeKeys_q6 (x1 : Int) (x2 : Int) (x3 : tSystem) (x4 : tToxic) (x5 : tMaker) (x6 : tQap) (x7 : tMaker) : iMakeKeys_D6 (x1, (x2, (x3, (x4, (x5, (x6, (x7, ()))))))) = cnd (ilt x2 x1) (cnd (inb x2 (len x6.1)) (bnd (iPolyAt_d ((rd ([] : List Int) x6.1 x2), (x4.1, ()))) (fun r7 => (bnd (iTimes_d (r7.1.1, ())) (fun r8 => (cnd (fits ((len x7.2.1) + (len (r8.1.1 :: ([] : List tPoint)))) 3) (cnd (inb x2 (len x6.2.1)) (bnd (iPolyAt_d ((rd ([] : List Int) x6.2.1 x2), (x4.1, ()))) (fun r9 => (bnd (iTimes_d (r9.1.1, ())) (fun r10 => (cnd (fits ((len x7.2.2.1) + (len (r10.1.1 :: ([] : List tPoint)))) 3) (bnd (iMixOf_d (x6, (x4, (x2, ())))) (fun r11 => (cnd (ile x2 x3.2.1) (bnd (iScInv_d (x4.2.2.2.1, ())) (fun r12 => (bnd (iScMul_d (r11.1.1, (r12.1.1, ()))) (fun r13 => (bnd (iTimes_d (r13.1.1, ())) (fun r14 => (cnd (fits ((len x7.1.2.2.2.2.1) + (len (r14.1.1 :: ([] : List tPoint)))) 3) (iMakeKeys_D6 (x1, ((iadd .i64 x2 (1 : Int)), (x3, (x4, (x5, (x6, (((x7.1.1, (x7.1.2.1, (x7.1.2.2.1, (x7.1.2.2.2.1, ((app x7.1.2.2.2.2.1 (r14.1.1 :: ([] : List tPoint))), x7.1.2.2.2.2.2))))), ((app x7.2.1 (r8.1.1 :: ([] : List tPoint))), ((app x7.2.2.1 (r10.1.1 :: ([] : List tPoint))), x7.2.2.2))), ())))))))) none))))))) (bnd (iScInv_d (x4.2.2.2.2.1, ())) (fun r12 => (bnd (iScMul_d (r11.1.1, (r12.1.1, ()))) (fun r13 => (bnd (iTimes_d (r13.1.1, ())) (fun r14 => (cnd (fits ((len x7.2.2.2.1) + (len (r14.1.1 :: ([] : List tPoint)))) 3) (iMakeKeys_D6 (x1, ((iadd .i64 x2 (1 : Int)), (x3, (x4, (x5, (x6, ((x7.1, ((app x7.2.1 (r8.1.1 :: ([] : List tPoint))), ((app x7.2.2.1 (r10.1.1 :: ([] : List tPoint))), ((app x7.2.2.2.1 (r14.1.1 :: ([] : List tPoint))), x7.2.2.2.2)))), ())))))))) none)))))))))) none))))) none) none))))) none) (bnd (iPolyZero_d ((len x3.2.2.1), ())) (fun r7 => (bnd (iPolyAt_d (r7.1.1, (x4.1, ()))) (fun r8 => (bnd (iScInv_d (x4.2.2.2.2.1, ())) (fun r9 => (bnd (iScMul_d (r8.1.1, (r9.1.1, ()))) (fun r10 => (iMakeKeys_D17 (r10.1.1, ((isub .i64 (len x3.2.2.1) (1 : Int)), ((0 : Int), (x4, (x5, (x7, ()))))))))))))))) := (FnD.eqC V iMakeKeys_c iMakeKeys_F 6 (x1, (x2, (x3, (x4, (x5, (x6, (x7, ())))))))).trans (by kernel_rfl)
theorem iMakeKeys_q17 (x1 : Int) (x2 : Int) (x3 : Int) (x4 : tToxic) (x5 : tMaker) (x6 : tMaker) : iMakeKeys_D17 (x1, (x2, (x3, (x4, (x5, (x6, ())))))) = cnd (ilt x3 x2) (bnd (iTimes_d (x1, ())) (fun r6 => (cnd (fits ((len x6.2.2.2.2.1) + (len (r6.1.1 :: ([] : List tPoint)))) 3) (bnd (iScMul_d (x1, (x4.1, ()))) (fun r7 => (iMakeKeys_D17 (r7.1.1, (x2, ((iadd .i64 x3 (1 : Int)), (x4, (x5, ((x6.1, (x6.2.1, (x6.2.2.1, (x6.2.2.2.1, ((app x6.2.2.2.2.1 (r6.1.1 :: ([] : List tPoint))), x6.2.2.2.2.2))))), ()))))))))) none))) (some ((x6, (true, ())), ())) := (FnD.eqC V iMakeKeys_c iMakeKeys_F 17 (x1, (x2, (x3, (x4, (x5, (x6, ()))))))).trans (by kernel_rfl)
theorem iMakeKeys_k : CallsOk Try.prog gls gvs 41 iMakeKeys_g := FnD.ok (F := iMakeKeys_F) (cs := iMakeKeys_c) V_ok (kC iToxicOk_k (kC iQapOf_k (kC iTimes_k (kC iPolyAt_k (kC iMixOf_k (kC iScInv_k (kC iScMul_k (kC iPolyZero_k kN)))))))) Try.func41 (by decide) (by kernel_rfl)
-- impl.ScriptMaker
noncomputable def iScriptMaker_F : FnD := { f := 15, fn := Try.f15, ps := [], rs := [⟨TMaker, (.pr (.pr .sh (.pr .sh (.pr .sh (.pr .sh (.pr (.own 0 .sh) .sh))))) (.pr (.own 0 .sh) (.pr (.own 0 .sh) (.pr (.own 0 .sh) (.pr (.own 0 .sh) .sh))))), false⟩] }
noncomputable def iScriptMaker_c : List (Nat × Sig) := [(42, iCountSystem_g), (41, iMakeKeys_g)]
noncomputable def iScriptMaker_d : Unit → Option ((tMaker × Unit) × Unit) := iScriptMaker_F.d V iScriptMaker_c
noncomputable abbrev iScriptMaker_g : Sig := iScriptMaker_F.t.sig iScriptMaker_d
theorem iScriptMaker_b : iScriptMaker_d () = bnd (iCountSystem_d ()) (fun r0 => (bnd (iMakeKeys_d (r0.1.1, (((77 : Int), ((5 : Int), ((7 : Int), ((11 : Int), ((13 : Int), ()))))), ()))) (fun r1 => (some ((r1.1.1, ()), ()))))) := (FnD.eq V iScriptMaker_c iScriptMaker_F ()).trans (by kernel_rfl)
theorem iScriptMaker_k : CallsOk Try.prog gls gvs 15 iScriptMaker_g := FnD.ok (F := iScriptMaker_F) (cs := iScriptMaker_c) V_ok (kC iCountSystem_k (kC iMakeKeys_k kN)) Try.func15 (by decide) (by kernel_rfl)
-- laws.eqMaker
noncomputable def wEqMaker_F : FnD := { f := 16, fn := Try.f16, ps := [pa TMaker, pa TMaker], rs := [rt .bool] }
noncomputable def wEqMaker_c : List (Nat × Sig) := [(34, wEqKeys_g), (43, wEqPointS_g)]
noncomputable def wEqMaker_d : tMaker × tMaker × Unit → Option ((Bool × Unit) × Unit) := wEqMaker_F.d V wEqMaker_c
noncomputable abbrev wEqMaker_g : Sig := wEqMaker_F.t.sig wEqMaker_d
theorem wEqMaker_b (x1 : tMaker) (x2 : tMaker) : wEqMaker_d (x1, (x2, ())) = bnd (wEqKeys_d (x1.1, (x2.1, ()))) (fun r2 => (cnd (bnot r2.1.1) (some ((false, ()), ())) (bnd (wEqPointS_d (x1.2.1, (x2.2.1, ()))) (fun r3 => (cnd (bnot r3.1.1) (some ((false, ()), ())) (bnd (wEqPointS_d (x1.2.2.1, (x2.2.2.1, ()))) (fun r4 => (cnd (bnot r4.1.1) (some ((false, ()), ())) (bnd (wEqPointS_d (x1.2.2.2.1, (x2.2.2.2.1, ()))) (fun r5 => (cnd (bnot r5.1.1) (some ((false, ()), ())) (bnd (wEqPointS_d (x1.2.2.2.2.1, (x2.2.2.2.2.1, ()))) (fun r6 => (cnd (bnot r6.1.1) (some ((false, ()), ())) (some ((true, ()), ())))))))))))))))) := (FnD.eq V wEqMaker_c wEqMaker_F (x1, (x2, ()))).trans (by kernel_rfl)
theorem wEqMaker_k : CallsOk Try.prog gls gvs 16 wEqMaker_g := FnD.ok (F := wEqMaker_F) (cs := wEqMaker_c) V_ok (kC wEqKeys_k (kC wEqPointS_k kN)) Try.func16 (by decide) (by kernel_rfl)
-- laws.markMaker
noncomputable def wMarkMaker_F : FnD := { f := 17, fn := Try.f17, ps := [⟨TMaker, (.pr (.pr .sh (.pr .sh (.pr .sh (.pr .sh (.pr (.own 1 .sh) .sh))))) (.pr (.own 2 .sh) (.pr (.own 3 .sh) (.pr (.own 4 .sh) (.pr (.own 5 .sh) .sh))))), true, false, some 2⟩, pa (.int .i64)], rs := [rt (.int .i64)] }
noncomputable def wMarkMaker_c : List (Nat × Sig) := [(36, wMarkKeys_g), (44, wMarkPointS_g)]
noncomputable def wMarkMaker_d : tMaker × Int × Unit → Option ((Int × Unit) × tMaker × Unit) := wMarkMaker_F.d V wMarkMaker_c
noncomputable abbrev wMarkMaker_g : Sig := wMarkMaker_F.t.sig wMarkMaker_d
theorem wMarkMaker_b (x1 : tMaker) (x2 : Int) : wMarkMaker_d (x1, (x2, ())) = bnd (wMarkKeys_d (x1.1, (x2, ()))) (fun r2 => (bnd (wMarkPointS_d (x1.2.1, (r2.1.1, ()))) (fun r3 => (bnd (wMarkPointS_d (x1.2.2.1, (r3.1.1, ()))) (fun r4 => (bnd (wMarkPointS_d (x1.2.2.2.1, (r4.1.1, ()))) (fun r5 => (bnd (wMarkPointS_d (x1.2.2.2.2.1, (r5.1.1, ()))) (fun r6 => (some ((r6.1.1, ()), ((((x1.1.1.1, (x1.1.1.2.1, (x1.1.1.2.2.1, x1.1.1.2.2.2))), ((x1.1.2.1.1, (x1.1.2.1.2.1, (x1.1.2.1.2.2.1, x1.1.2.1.2.2.2))), ((x1.1.2.2.1.1, (x1.1.2.2.1.2.1, (x1.1.2.2.1.2.2.1, x1.1.2.2.1.2.2.2))), ((x1.1.2.2.2.1.1, (x1.1.2.2.2.1.2.1, (x1.1.2.2.2.1.2.2.1, x1.1.2.2.2.1.2.2.2))), (r2.2.1.2.2.2.2.1, x1.1.2.2.2.2.2))))), (r3.2.1, (r4.2.1, (r5.2.1, (r6.2.1, x1.2.2.2.2.2))))), ())))))))))))) := (FnD.eq V wMarkMaker_c wMarkMaker_F (x1, (x2, ()))).trans (by kernel_rfl)
theorem wMarkMaker_k : CallsOk Try.prog gls gvs 17 wMarkMaker_g := FnD.ok (F := wMarkMaker_F) (cs := wMarkMaker_c) V_ok (kC wMarkKeys_k (kC wMarkPointS_k kN)) Try.func17 (by decide) (by kernel_rfl)
-- laws.heldMaker
noncomputable def wHeldMaker_F : FnD := { f := 18, fn := Try.f18, ps := [pa TMaker, pa (.int .i64)], rs := [rt (.int .i64)] }
noncomputable def wHeldMaker_c : List (Nat × Sig) := [(45, wHeldKeys_g), (46, wHeldPointS_g)]
noncomputable def wHeldMaker_d : tMaker × Int × Unit → Option ((Int × Unit) × Unit) := wHeldMaker_F.d V wHeldMaker_c
noncomputable abbrev wHeldMaker_g : Sig := wHeldMaker_F.t.sig wHeldMaker_d
theorem wHeldMaker_b (x1 : tMaker) (x2 : Int) : wHeldMaker_d (x1, (x2, ())) = bnd (wHeldKeys_d (x1.1, (x2, ()))) (fun r2 => (cnd (ilt r2.1.1 (0 : Int)) (some (((-1 : Int), ()), ())) (bnd (wHeldPointS_d (x1.2.1, (r2.1.1, ()))) (fun r3 => (cnd (ilt r3.1.1 (0 : Int)) (some (((-1 : Int), ()), ())) (bnd (wHeldPointS_d (x1.2.2.1, (r3.1.1, ()))) (fun r4 => (cnd (ilt r4.1.1 (0 : Int)) (some (((-1 : Int), ()), ())) (bnd (wHeldPointS_d (x1.2.2.2.1, (r4.1.1, ()))) (fun r5 => (cnd (ilt r5.1.1 (0 : Int)) (some (((-1 : Int), ()), ())) (bnd (wHeldPointS_d (x1.2.2.2.2.1, (r5.1.1, ()))) (fun r6 => (cnd (ilt r6.1.1 (0 : Int)) (some (((-1 : Int), ()), ())) (some ((r6.1.1, ()), ())))))))))))))))) := (FnD.eq V wHeldMaker_c wHeldMaker_F (x1, (x2, ()))).trans (by kernel_rfl)
theorem wHeldMaker_k : CallsOk Try.prog gls gvs 18 wHeldMaker_g := FnD.ok (F := wHeldMaker_F) (cs := wHeldMaker_c) V_ok (kC wHeldKeys_k (kC wHeldPointS_k kN)) Try.func18 (by decide) (by kernel_rfl)
-- laws.FnExactScriptMaker
noncomputable def wFnExactScriptMaker_F : FnD := { f := 4, fn := Try.f4, ps := [], rs := [rt .bool] }
noncomputable def wFnExactScriptMaker_c : List (Nat × Sig) := [(14, sScriptMaker_g), (15, iScriptMaker_g), (16, wEqMaker_g), (17, wMarkMaker_g), (18, wHeldMaker_g)]
noncomputable def wFnExactScriptMaker_d : Unit → Option ((Bool × Unit) × Unit) := wFnExactScriptMaker_F.d V wFnExactScriptMaker_c
noncomputable abbrev wFnExactScriptMaker_g : Sig := wFnExactScriptMaker_F.t.sig wFnExactScriptMaker_d
theorem wFnExactScriptMaker_b : wFnExactScriptMaker_d () = bnd (sScriptMaker_d ()) (fun r0 => (bnd (iScriptMaker_d ()) (fun r1 => (bnd (wEqMaker_d (r1.1.1, (r0.1.1, ()))) (fun r2 => (cnd (bnot r2.1.1) (some ((false, ()), ())) (bnd (wMarkMaker_d (r1.1.1, ((1 : Int), ()))) (fun r3 => (bnd (wHeldMaker_d ((((r1.1.1.1.1.1, (r1.1.1.1.1.2.1, (r1.1.1.1.1.2.2.1, r1.1.1.1.1.2.2.2))), ((r1.1.1.1.2.1.1, (r1.1.1.1.2.1.2.1, (r1.1.1.1.2.1.2.2.1, r1.1.1.1.2.1.2.2.2))), ((r1.1.1.1.2.2.1.1, (r1.1.1.1.2.2.1.2.1, (r1.1.1.1.2.2.1.2.2.1, r1.1.1.1.2.2.1.2.2.2))), ((r1.1.1.1.2.2.2.1.1, (r1.1.1.1.2.2.2.1.2.1, (r1.1.1.1.2.2.2.1.2.2.1, r1.1.1.1.2.2.2.1.2.2.2))), (r3.2.1.1.2.2.2.2.1, r1.1.1.1.2.2.2.2.2))))), (r3.2.1.2.1, (r3.2.1.2.2.1, (r3.2.1.2.2.2.1, (r3.2.1.2.2.2.2.1, r1.1.1.2.2.2.2.2))))), ((1 : Int), ()))) (fun r4 => (cnd (ilt r4.1.1 (0 : Int)) (some ((false, ()), ())) (cnd (ine r4.1.1 r3.1.1) (some ((false, ()), ())) (bnd (iScriptMaker_d ()) (fun r5 => (bnd (wEqMaker_d (r5.1.1, (r0.1.1, ()))) (fun r6 => (cnd (bnot r6.1.1) (some ((false, ()), ())) (bnd (wHeldMaker_d ((((r1.1.1.1.1.1, (r1.1.1.1.1.2.1, (r1.1.1.1.1.2.2.1, r1.1.1.1.1.2.2.2))), ((r1.1.1.1.2.1.1, (r1.1.1.1.2.1.2.1, (r1.1.1.1.2.1.2.2.1, r1.1.1.1.2.1.2.2.2))), ((r1.1.1.1.2.2.1.1, (r1.1.1.1.2.2.1.2.1, (r1.1.1.1.2.2.1.2.2.1, r1.1.1.1.2.2.1.2.2.2))), ((r1.1.1.1.2.2.2.1.1, (r1.1.1.1.2.2.2.1.2.1, (r1.1.1.1.2.2.2.1.2.2.1, r1.1.1.1.2.2.2.1.2.2.2))), (r3.2.1.1.2.2.2.2.1, r1.1.1.1.2.2.2.2.2))))), (r3.2.1.2.1, (r3.2.1.2.2.1, (r3.2.1.2.2.2.1, (r3.2.1.2.2.2.2.1, r1.1.1.2.2.2.2.2))))), ((1 : Int), ()))) (fun r7 => (cnd (ilt r7.1.1 (0 : Int)) (some ((false, ()), ())) (cnd (ine r7.1.1 r3.1.1) (some ((false, ()), ())) (some ((true, ()), ()))))))))))))))))))))))) := (FnD.eq V wFnExactScriptMaker_c wFnExactScriptMaker_F ()).trans (by kernel_rfl)
theorem wFnExactScriptMaker_k : CallsOk Try.prog gls gvs 4 wFnExactScriptMaker_g := FnD.ok (F := wFnExactScriptMaker_F) (cs := wFnExactScriptMaker_c) V_ok (kC sScriptMaker_k (kC iScriptMaker_k (kC wEqMaker_k (kC wMarkMaker_k (kC wHeldMaker_k kN))))) Try.func4 (by decide) (by kernel_rfl)
end Go.Proofs.Ytngnpgnlbkgofaa
