/- What the functions come to: printed by program. Of no condition. -/
import Derived.Test.YtonggnnjobapcaaGreatDoorX0
set_option linter.unusedVariables false
set_option maxRecDepth 100000
namespace Go.Proofs.YtonggnnjobapcaaGreatDoor
open Go.TV
-- laws.szHead
noncomputable def wSzHead_F : FnD := { f := 44, fn := Tryz.f44, ps := [pa THead, pa (.int .i64)], rs := [rt (.int .i64)] }
noncomputable def wSzHead_c : List (Nat × Sig) := []
noncomputable def wSzHead_d : tHead × Int × Unit → Option ((Int × Unit) × Unit) := wSzHead_F.d V wSzHead_c
noncomputable abbrev wSzHead_g : Sig := wSzHead_F.t.sig wSzHead_d
theorem wSzHead_b (x1 : tHead) (x2 : Int) : wSzHead_d (x1, (x2, ())) = cnd (ilt (isub .i64 x2 (ssz x1.2.1)) (0 : Int)) (some (((-1 : Int), ()), ())) (cnd (ilt (isub .i64 (isub .i64 x2 (ssz x1.2.1)) (ssz x1.2.2.1)) (0 : Int)) (some (((-1 : Int), ()), ())) (cnd (ilt (isub .i64 (isub .i64 (isub .i64 x2 (ssz x1.2.1)) (ssz x1.2.2.1)) (ssz x1.2.2.2.1)) (0 : Int)) (some (((-1 : Int), ()), ())) (some (((isub .i64 (isub .i64 (isub .i64 x2 (ssz x1.2.1)) (ssz x1.2.2.1)) (ssz x1.2.2.2.1)), ()), ())))) := (FnD.eq V wSzHead_c wSzHead_F (x1, (x2, ()))).trans (by kernel_rfl)
theorem wSzHead_k : CallsOk Tryz.prog gls gvs 44 wSzHead_g := FnD.ok (F := wSzHead_F) (cs := wSzHead_c) V_ok kN Tryz.func44 (by decide) (by kernel_rfl)
-- laws.szPointS
noncomputable def wSzPointS_F : FnD := { f := 99, fn := Tryz.f99, ps := [pa (.sl TPoint), pa (.int .i64)], rs := [rt (.int .i64)] }
noncomputable def wSzPointS_c : List (Nat × Sig) := []
noncomputable def wSzPointS_d : (List tPoint) × Int × Unit → Option ((Int × Unit) × Unit) := wSzPointS_F.d V wSzPointS_c
noncomputable abbrev wSzPointS_g : Sig := wSzPointS_F.t.sig wSzPointS_d
theorem wSzPointS_b (x1 : (List tPoint)) (x2 : Int) : wSzPointS_d (x1, (x2, ())) = cnd (ilt (isub .i64 x2 (len x1)) (0 : Int)) (some (((-1 : Int), ()), ())) (some (((isub .i64 x2 (len x1)), ()), ())) := (FnD.eq V wSzPointS_c wSzPointS_F (x1, (x2, ()))).trans (by kernel_rfl)
theorem wSzPointS_k : CallsOk Tryz.prog gls gvs 99 wSzPointS_g := FnD.ok (F := wSzPointS_F) (cs := wSzPointS_c) V_ok kN Tryz.func99 (by decide) (by kernel_rfl)
-- laws.szCommittee
noncomputable def wSzCommittee_F : FnD := { f := 45, fn := Tryz.f45, ps := [pa TCommittee, pa (.int .i64)], rs := [rt (.int .i64)] }
noncomputable def wSzCommittee_c : List (Nat × Sig) := [(99, wSzPointS_g)]
noncomputable def wSzCommittee_d : tCommittee × Int × Unit → Option ((Int × Unit) × Unit) := wSzCommittee_F.d V wSzCommittee_c
noncomputable abbrev wSzCommittee_g : Sig := wSzCommittee_F.t.sig wSzCommittee_d
theorem wSzCommittee_b (x1 : tCommittee) (x2 : Int) : wSzCommittee_d (x1, (x2, ())) = bnd (wSzPointS_d (x1.1, (x2, ()))) (fun r2 => (cnd (ilt r2.1.1 (0 : Int)) (some (((-1 : Int), ()), ())) (some ((r2.1.1, ()), ())))) := (FnD.eq V wSzCommittee_c wSzCommittee_F (x1, (x2, ()))).trans (by kernel_rfl)
theorem wSzCommittee_k : CallsOk Tryz.prog gls gvs 45 wSzCommittee_g := FnD.ok (F := wSzCommittee_F) (cs := wSzCommittee_c) V_ok (kC wSzPointS_k kN) Tryz.func45 (by decide) (by kernel_rfl)
-- laws.szKeys
noncomputable def wSzKeys_F : FnD := { f := 46, fn := Tryz.f46, ps := [pa TKeys, pa (.int .i64)], rs := [rt (.int .i64)] }
noncomputable def wSzKeys_c : List (Nat × Sig) := [(99, wSzPointS_g)]
noncomputable def wSzKeys_d : tKeys × Int × Unit → Option ((Int × Unit) × Unit) := wSzKeys_F.d V wSzKeys_c
noncomputable abbrev wSzKeys_g : Sig := wSzKeys_F.t.sig wSzKeys_d
theorem wSzKeys_b (x1 : tKeys) (x2 : Int) : wSzKeys_d (x1, (x2, ())) = bnd (wSzPointS_d (x1.2.2.2.2.1, (x2, ()))) (fun r2 => (cnd (ilt r2.1.1 (0 : Int)) (some (((-1 : Int), ()), ())) (some ((r2.1.1, ()), ())))) := (FnD.eq V wSzKeys_c wSzKeys_F (x1, (x2, ()))).trans (by kernel_rfl)
theorem wSzKeys_k : CallsOk Tryz.prog gls gvs 46 wSzKeys_g := FnD.ok (F := wSzKeys_F) (cs := wSzKeys_c) V_ok (kC wSzPointS_k kN) Tryz.func46 (by decide) (by kernel_rfl)
-- laws.szClient
noncomputable def wSzClient_F : FnD := { f := 14, fn := Tryz.f14, ps := [pa TClient, pa (.int .i64)], rs := [rt (.int .i64)] }
noncomputable def wSzClient_c : List (Nat × Sig) := [(44, wSzHead_g), (45, wSzCommittee_g), (46, wSzKeys_g)]
noncomputable def wSzClient_d : tClient × Int × Unit → Option ((Int × Unit) × Unit) := wSzClient_F.d V wSzClient_c
noncomputable abbrev wSzClient_g : Sig := wSzClient_F.t.sig wSzClient_d
theorem wSzClient_b (x1 : tClient) (x2 : Int) : wSzClient_d (x1, (x2, ())) = bnd (wSzHead_d (x1.1, (x2, ()))) (fun r2 => (cnd (ilt r2.1.1 (0 : Int)) (some (((-1 : Int), ()), ())) (bnd (wSzCommittee_d (x1.2.1, (r2.1.1, ()))) (fun r3 => (cnd (ilt r3.1.1 (0 : Int)) (some (((-1 : Int), ()), ())) (bnd (wSzCommittee_d (x1.2.2.1, (r3.1.1, ()))) (fun r4 => (cnd (ilt r4.1.1 (0 : Int)) (some (((-1 : Int), ()), ())) (bnd (wSzKeys_d (x1.2.2.2.2.1, (r4.1.1, ()))) (fun r5 => (cnd (ilt r5.1.1 (0 : Int)) (some (((-1 : Int), ()), ())) (some ((r5.1.1, ()), ()))))))))))))) := (FnD.eq V wSzClient_c wSzClient_F (x1, (x2, ()))).trans (by kernel_rfl)
theorem wSzClient_k : CallsOk Tryz.prog gls gvs 14 wSzClient_g := FnD.ok (F := wSzClient_F) (cs := wSzClient_c) V_ok (kC wSzHead_k (kC wSzCommittee_k (kC wSzKeys_k kN))) Tryz.func14 (by decide) (by kernel_rfl)
-- laws.szStringS
noncomputable def wSzStringS_F : FnD := { f := 34, fn := Tryz.f34, ps := [pa (.sl .str), pa (.int .i64)], rs := [rt (.int .i64)], cuts := [(5, [.val 0 (.sl .str) .sh, .val 1 (.int .i64) .sh, .val 5 (.int .i64) .sh])] }
noncomputable def wSzStringS_c : List (Nat × Sig) := []
noncomputable def wSzStringS_d : (List ByteArray) × Int × Unit → Option ((Int × Unit) × Unit) := wSzStringS_F.d V wSzStringS_c
noncomputable abbrev wSzStringS_g : Sig := wSzStringS_F.t.sig wSzStringS_d
noncomputable def wSzStringS_D5 : (List ByteArray) × Int × Int × Unit → Option ((Int × Unit) × Unit) := wSzStringS_F.D V wSzStringS_c 5
theorem wSzStringS_b (x1 : (List ByteArray)) (x2 : Int) : wSzStringS_d (x1, (x2, ())) = cnd (ilt (isub .i64 x2 (len x1)) (0 : Int)) (some (((-1 : Int), ()), ())) (wSzStringS_D5 (x1, ((isub .i64 x2 (len x1)), ((0 : Int), ())))) := (FnD.eq V wSzStringS_c wSzStringS_F (x1, (x2, ()))).trans (by kernel_rfl)
theorem wSzStringS_q5 (x1 : (List ByteArray)) (x2 : Int) (x3 : Int) : wSzStringS_D5 (x1, (x2, (x3, ()))) = cnd (ilt x3 (len x1)) (cnd (inb x3 (len x1)) (cnd (ilt (isub .i64 x2 (ssz (rd (bs []) x1 x3))) (0 : Int)) (some (((-1 : Int), ()), ())) (wSzStringS_D5 (x1, ((isub .i64 x2 (ssz (rd (bs []) x1 x3))), ((iadd .i64 x3 (1 : Int)), ()))))) none) (some ((x2, ()), ())) := (FnD.eqC V wSzStringS_c wSzStringS_F 5 (x1, (x2, (x3, ())))).trans (by kernel_rfl)
theorem wSzStringS_k : CallsOk Tryz.prog gls gvs 34 wSzStringS_g := FnD.ok (F := wSzStringS_F) (cs := wSzStringS_c) V_ok kN Tryz.func34 (by decide) (by kernel_rfl)
-- laws.szBridge
noncomputable def wSzBridge_F : FnD := { f := 9, fn := Tryz.f9, ps := [pa TBridge, pa (.int .i64)], rs := [rt (.int .i64)] }
noncomputable def wSzBridge_c : List (Nat × Sig) := [(14, wSzClient_g), (34, wSzStringS_g)]
noncomputable def wSzBridge_d : tBridge × Int × Unit → Option ((Int × Unit) × Unit) := wSzBridge_F.d V wSzBridge_c
noncomputable abbrev wSzBridge_g : Sig := wSzBridge_F.t.sig wSzBridge_d
theorem wSzBridge_b (x1 : tBridge) (x2 : Int) : wSzBridge_d (x1, (x2, ())) = bnd (wSzClient_d (x1.1, (x2, ()))) (fun r2 => (cnd (ilt r2.1.1 (0 : Int)) (some (((-1 : Int), ()), ())) (bnd (wSzClient_d (x1.2.1, (r2.1.1, ()))) (fun r3 => (cnd (ilt r3.1.1 (0 : Int)) (some (((-1 : Int), ()), ())) (cnd (ilt (isub .i64 r3.1.1 (ssz x1.2.2.1)) (0 : Int)) (some (((-1 : Int), ()), ())) (bnd (wSzStringS_d (x1.2.2.2.2.1, ((isub .i64 r3.1.1 (ssz x1.2.2.1)), ()))) (fun r4 => (cnd (ilt r4.1.1 (0 : Int)) (some (((-1 : Int), ()), ())) (some ((r4.1.1, ()), ()))))))))))) := (FnD.eq V wSzBridge_c wSzBridge_F (x1, (x2, ()))).trans (by kernel_rfl)
theorem wSzBridge_k : CallsOk Tryz.prog gls gvs 9 wSzBridge_g := FnD.ok (F := wSzBridge_F) (cs := wSzBridge_c) V_ok (kC wSzClient_k (kC wSzStringS_k kN)) Tryz.func9 (by decide) (by kernel_rfl)
-- laws.toHead
noncomputable def wToHead_F : FnD := { f := 50, fn := Tryz.f50, ps := [pa THead], rs := [rt THead] }
noncomputable def wToHead_c : List (Nat × Sig) := []
noncomputable def wToHead_d : tHead × Unit → Option ((tHead × Unit) × Unit) := wToHead_F.d V wToHead_c
noncomputable abbrev wToHead_g : Sig := wToHead_F.t.sig wToHead_d
theorem wToHead_b (x1 : tHead) : wToHead_d (x1, ()) = some (((x1.1, (x1.2.1, (x1.2.2.1, (x1.2.2.2.1, ())))), ()), ()) := (FnD.eq V wToHead_c wToHead_F (x1, ())).trans (by kernel_rfl)
theorem wToHead_k : CallsOk Tryz.prog gls gvs 50 wToHead_g := FnD.ok (F := wToHead_F) (cs := wToHead_c) V_ok kN Tryz.func50 (by decide) (by kernel_rfl)
-- laws.toPoint
noncomputable def wToPoint_F : FnD := { f := 113, fn := Tryz.f113, ps := [pa TPoint], rs := [rt TPoint] }
noncomputable def wToPoint_c : List (Nat × Sig) := []
noncomputable def wToPoint_d : tPoint × Unit → Option ((tPoint × Unit) × Unit) := wToPoint_F.d V wToPoint_c
noncomputable abbrev wToPoint_g : Sig := wToPoint_F.t.sig wToPoint_d
theorem wToPoint_b (x1 : tPoint) : wToPoint_d (x1, ()) = some (((x1.1, (x1.2.1, (x1.2.2.1, ()))), ()), ()) := (FnD.eq V wToPoint_c wToPoint_F (x1, ())).trans (by kernel_rfl)
theorem wToPoint_k : CallsOk Tryz.prog gls gvs 113 wToPoint_g := FnD.ok (F := wToPoint_F) (cs := wToPoint_c) V_ok kN Tryz.func113 (by decide) (by kernel_rfl)
-- laws.toPointS
noncomputable def wToPointS_F : FnD := { f := 112, fn := Tryz.f112, ps := [pa (.sl TPoint)], rs := [⟨(.sl TPoint), (.own 0 .sh), false⟩], cuts := [(3, [.val 0 (.sl TPoint) .sh, .val 3 (.sl TPoint) (.own 0 .sh), .val 4 (.int .i64) .sh])] }
noncomputable def wToPointS_c : List (Nat × Sig) := [(113, wToPoint_g)]
noncomputable def wToPointS_d : (List tPoint) × Unit → Option (((List tPoint) × Unit) × Unit) := wToPointS_F.d V wToPointS_c
noncomputable abbrev wToPointS_g : Sig := wToPointS_F.t.sig wToPointS_d
noncomputable def wToPointS_D3 : (List tPoint) × (List tPoint) × Int × Unit → Option (((List tPoint) × Unit) × Unit) := wToPointS_F.D V wToPointS_c 3
theorem wToPointS_b (x1 : (List tPoint)) : wToPointS_d (x1, ()) = cnd (both (inb2 (0 : Int) (len x1) (len x1)) (fits (len x1) 3)) (wToPointS_D3 (x1, ((rep (len x1) zPoint), ((0 : Int), ())))) none := (FnD.eq V wToPointS_c wToPointS_F (x1, ())).trans (by kernel_rfl)
theorem wToPointS_q3 (x1 : (List tPoint)) (x2 : (List tPoint)) (x3 : Int) : wToPointS_D3 (x1, (x2, (x3, ()))) = cnd (ilt x3 (len x1)) (cnd (inb x3 (len x1)) (bnd (wToPoint_d ((rd zPoint x1 x3), ())) (fun r3 => (cnd (inb x3 (len x2)) (wToPointS_D3 (x1, ((upd x2 x3 r3.1.1), ((iadd .i64 x3 (1 : Int)), ())))) none))) none) (some ((x2, ()), ())) := (FnD.eqC V wToPointS_c wToPointS_F 3 (x1, (x2, (x3, ())))).trans (by kernel_rfl)
theorem wToPointS_k : CallsOk Tryz.prog gls gvs 112 wToPointS_g := FnD.ok (F := wToPointS_F) (cs := wToPointS_c) V_ok (kC wToPoint_k kN) Tryz.func112 (by decide) (by kernel_rfl)
-- laws.toCommittee
noncomputable def wToCommittee_F : FnD := { f := 51, fn := Tryz.f51, ps := [pa TCommittee], rs := [⟨TCommittee, (.pr (.own 0 .sh) .sh), false⟩] }
noncomputable def wToCommittee_c : List (Nat × Sig) := [(112, wToPointS_g)]
noncomputable def wToCommittee_d : tCommittee × Unit → Option ((tCommittee × Unit) × Unit) := wToCommittee_F.d V wToCommittee_c
noncomputable abbrev wToCommittee_g : Sig := wToCommittee_F.t.sig wToCommittee_d
theorem wToCommittee_b (x1 : tCommittee) : wToCommittee_d (x1, ()) = bnd (wToPointS_d (x1.1, ())) (fun r1 => (some (((r1.1.1, ()), ()), ()))) := (FnD.eq V wToCommittee_c wToCommittee_F (x1, ())).trans (by kernel_rfl)
theorem wToCommittee_k : CallsOk Tryz.prog gls gvs 51 wToCommittee_g := FnD.ok (F := wToCommittee_F) (cs := wToCommittee_c) V_ok (kC wToPointS_k kN) Tryz.func51 (by decide) (by kernel_rfl)
-- laws.toKeys
noncomputable def wToKeys_F : FnD := { f := 52, fn := Tryz.f52, ps := [pa TKeys], rs := [⟨TKeys, (.pr .sh (.pr .sh (.pr .sh (.pr .sh (.pr (.own 0 .sh) .sh))))), false⟩] }
noncomputable def wToKeys_c : List (Nat × Sig) := [(113, wToPoint_g), (112, wToPointS_g)]
noncomputable def wToKeys_d : tKeys × Unit → Option ((tKeys × Unit) × Unit) := wToKeys_F.d V wToKeys_c
noncomputable abbrev wToKeys_g : Sig := wToKeys_F.t.sig wToKeys_d
theorem wToKeys_b (x1 : tKeys) : wToKeys_d (x1, ()) = bnd (wToPoint_d (x1.1, ())) (fun r1 => (bnd (wToPoint_d (x1.2.1, ())) (fun r2 => (bnd (wToPoint_d (x1.2.2.1, ())) (fun r3 => (bnd (wToPoint_d (x1.2.2.2.1, ())) (fun r4 => (bnd (wToPointS_d (x1.2.2.2.2.1, ())) (fun r5 => (some (((r1.1.1, (r2.1.1, (r3.1.1, (r4.1.1, (r5.1.1, ()))))), ()), ()))))))))))) := (FnD.eq V wToKeys_c wToKeys_F (x1, ())).trans (by kernel_rfl)
theorem wToKeys_k : CallsOk Tryz.prog gls gvs 52 wToKeys_g := FnD.ok (F := wToKeys_F) (cs := wToKeys_c) V_ok (kC wToPoint_k (kC wToPointS_k kN)) Tryz.func52 (by decide) (by kernel_rfl)
-- laws.toClient
noncomputable def wToClient_F : FnD := { f := 16, fn := Tryz.f16, ps := [pa TClient], rs := [⟨TClient, (.pr .sh (.pr (.pr (.own 0 .sh) .sh) (.pr (.pr (.own 0 .sh) .sh) (.pr .sh (.pr (.pr .sh (.pr .sh (.pr .sh (.pr .sh (.pr (.own 0 .sh) .sh))))) .sh))))), false⟩] }
noncomputable def wToClient_c : List (Nat × Sig) := [(50, wToHead_g), (51, wToCommittee_g), (52, wToKeys_g)]
noncomputable def wToClient_d : tClient × Unit → Option ((tClient × Unit) × Unit) := wToClient_F.d V wToClient_c
noncomputable abbrev wToClient_g : Sig := wToClient_F.t.sig wToClient_d
theorem wToClient_b (x1 : tClient) : wToClient_d (x1, ()) = bnd (wToHead_d (x1.1, ())) (fun r1 => (bnd (wToCommittee_d (x1.2.1, ())) (fun r2 => (bnd (wToCommittee_d (x1.2.2.1, ())) (fun r3 => (bnd (wToKeys_d (x1.2.2.2.2.1, ())) (fun r4 => (some (((r1.1.1, (r2.1.1, (r3.1.1, (x1.2.2.2.1, (r4.1.1, ()))))), ()), ()))))))))) := (FnD.eq V wToClient_c wToClient_F (x1, ())).trans (by kernel_rfl)
theorem wToClient_k : CallsOk Tryz.prog gls gvs 16 wToClient_g := FnD.ok (F := wToClient_F) (cs := wToClient_c) V_ok (kC wToHead_k (kC wToCommittee_k (kC wToKeys_k kN))) Tryz.func16 (by decide) (by kernel_rfl)
-- laws.toStringS
noncomputable def wToStringS_F : FnD := { f := 39, fn := Tryz.f39, ps := [pa (.sl .str)], rs := [⟨(.sl .str), (.own 0 .sh), false⟩], cuts := [(3, [.val 0 (.sl .str) .sh, .val 3 (.sl .str) (.own 0 .sh), .val 4 (.int .i64) .sh])] }
noncomputable def wToStringS_c : List (Nat × Sig) := []
noncomputable def wToStringS_d : (List ByteArray) × Unit → Option (((List ByteArray) × Unit) × Unit) := wToStringS_F.d V wToStringS_c
noncomputable abbrev wToStringS_g : Sig := wToStringS_F.t.sig wToStringS_d
noncomputable def wToStringS_D3 : (List ByteArray) × (List ByteArray) × Int × Unit → Option (((List ByteArray) × Unit) × Unit) := wToStringS_F.D V wToStringS_c 3
theorem wToStringS_b (x1 : (List ByteArray)) : wToStringS_d (x1, ()) = cnd (both (inb2 (0 : Int) (len x1) (len x1)) (fits (len x1) 1)) (wToStringS_D3 (x1, ((rep (len x1) (bs [])), ((0 : Int), ())))) none := (FnD.eq V wToStringS_c wToStringS_F (x1, ())).trans (by kernel_rfl)
theorem wToStringS_q3 (x1 : (List ByteArray)) (x2 : (List ByteArray)) (x3 : Int) : wToStringS_D3 (x1, (x2, (x3, ()))) = cnd (ilt x3 (len x1)) (cnd (inb x3 (len x1)) (cnd (inb x3 (len x2)) (wToStringS_D3 (x1, ((upd x2 x3 (rd (bs []) x1 x3)), ((iadd .i64 x3 (1 : Int)), ())))) none) none) (some ((x2, ()), ())) := (FnD.eqC V wToStringS_c wToStringS_F 3 (x1, (x2, (x3, ())))).trans (by kernel_rfl)
theorem wToStringS_k : CallsOk Tryz.prog gls gvs 39 wToStringS_g := FnD.ok (F := wToStringS_F) (cs := wToStringS_c) V_ok kN Tryz.func39 (by decide) (by kernel_rfl)
-- laws.toBridge
noncomputable def wToBridge_F : FnD := { f := 11, fn := Tryz.f11, ps := [pa TBridge], rs := [⟨TBridge, (.pr (.pr .sh (.pr (.pr (.own 0 .sh) .sh) (.pr (.pr (.own 0 .sh) .sh) (.pr .sh (.pr (.pr .sh (.pr .sh (.pr .sh (.pr .sh (.pr (.own 0 .sh) .sh))))) .sh))))) (.pr (.pr .sh (.pr (.pr (.own 0 .sh) .sh) (.pr (.pr (.own 0 .sh) .sh) (.pr .sh (.pr (.pr .sh (.pr .sh (.pr .sh (.pr .sh (.pr (.own 0 .sh) .sh))))) .sh))))) (.pr .sh (.pr .sh (.pr (.own 0 .sh) .sh))))), false⟩] }
noncomputable def wToBridge_c : List (Nat × Sig) := [(16, wToClient_g), (39, wToStringS_g)]
noncomputable def wToBridge_d : tBridge × Unit → Option ((tBridge × Unit) × Unit) := wToBridge_F.d V wToBridge_c
noncomputable abbrev wToBridge_g : Sig := wToBridge_F.t.sig wToBridge_d
theorem wToBridge_b (x1 : tBridge) : wToBridge_d (x1, ()) = bnd (wToClient_d (x1.1, ())) (fun r1 => (bnd (wToClient_d (x1.2.1, ())) (fun r2 => (bnd (wToStringS_d (x1.2.2.2.2.1, ())) (fun r3 => (some (((r1.1.1, (r2.1.1, (x1.2.2.1, (x1.2.2.2.1, (r3.1.1, (x1.2.2.2.2.2.1, ())))))), ()), ()))))))) := (FnD.eq V wToBridge_c wToBridge_F (x1, ())).trans (by kernel_rfl)
theorem wToBridge_k : CallsOk Tryz.prog gls gvs 11 wToBridge_g := FnD.ok (F := wToBridge_F) (cs := wToBridge_c) V_ok (kC wToClient_k (kC wToStringS_k kN)) Tryz.func11 (by decide) (by kernel_rfl)
-- spec.l01In
noncomputable def sL01In_F : FnD := { f := 65, fn := Tryz.f65, ps := [pa (.int .i64), pa (.int .i64), pa (.int .i64)], rs := [rt .bool] }
noncomputable def sL01In_c : List (Nat × Sig) := []
noncomputable def sL01In_d : Int × Int × Int × Unit → Option ((Bool × Unit) × Unit) := sL01In_F.d V sL01In_c
noncomputable abbrev sL01In_g : Sig := sL01In_F.t.sig sL01In_d
theorem sL01In_b (x1 : Int) (x2 : Int) (x3 : Int) : sL01In_d (x1, (x2, (x3, ()))) = cnd (ige x1 x2) (some (((ile x1 x3), ()), ())) (some ((false, ()), ())) := (FnD.eq V sL01In_c sL01In_F (x1, (x2, (x3, ())))).trans (by kernel_rfl)
theorem sL01In_k : CallsOk Tryz.prog gls gvs 65 sL01In_g := FnD.ok (F := sL01In_F) (cs := sL01In_c) V_ok kN Tryz.func65 (by decide) (by kernel_rfl)
-- spec.l01Var
noncomputable def sL01Var_F : FnD := { f := 150, fn := Tryz.f150, ps := [pa (.int .i64)], rs := [rt .str], cuts := [(2, [.val 0 (.int .i64) .sh, .val 3 (.sl (.int .u8)) (.own 0 .sh)])] }
noncomputable def sL01Var_c : List (Nat × Sig) := []
noncomputable def sL01Var_d : Int × Unit → Option ((ByteArray × Unit) × Unit) := sL01Var_F.d V sL01Var_c
noncomputable abbrev sL01Var_g : Sig := sL01Var_F.t.sig sL01Var_d
noncomputable def sL01Var_D2 : Int × (List Int) × Unit → Option ((ByteArray × Unit) × Unit) := sL01Var_F.D V sL01Var_c 2
theorem sL01Var_b (x1 : Int) : sL01Var_d (x1, ()) = sL01Var_D2 (x1, (([] : List Int), ())) := (FnD.eq V sL01Var_c sL01Var_F (x1, ())).trans (by kernel_rfl)
theorem sL01Var_q2 (x1 : Int) (x2 : (List Int)) : sL01Var_D2 (x1, (x2, ())) = cnd (igt x1 (127 : Int)) (cnd (nz (128 : Int)) (cnd (fits ((len x2) + (len ((iconv .u8 (iadd .i64 (irem x1 (128 : Int)) (128 : Int))) :: ([] : List Int)))) 1) (cnd (nz (128 : Int)) (sL01Var_D2 ((iquo .i64 x1 (128 : Int)), ((app x2 ((iconv .u8 (iadd .i64 (irem x1 (128 : Int)) (128 : Int))) :: ([] : List Int))), ()))) none) none) none) (cnd (fits ((len x2) + (len ((iconv .u8 x1) :: ([] : List Int)))) 1) (some (((sof (app x2 ((iconv .u8 x1) :: ([] : List Int)))), ()), ())) none) := (FnD.eqC V sL01Var_c sL01Var_F 2 (x1, (x2, ()))).trans (by kernel_rfl)
theorem sL01Var_k : CallsOk Tryz.prog gls gvs 150 sL01Var_g := FnD.ok (F := sL01Var_F) (cs := sL01Var_c) V_ok kN Tryz.func150 (by decide) (by kernel_rfl)
-- spec.ReadVar
noncomputable def sReadVar_F : FnD := { f := 108, fn := Tryz.f108, ps := [pa .str, pa (.int .i64)], rs := [rt (.int .i64), rt (.int .i64), rt .bool], cuts := [(6, [.val 0 .str .sh, .val 1 (.int .i64) .sh, .val 7 (.int .i64) .sh, .val 8 (.int .i64) .sh, .val 9 (.int .i64) .sh])] }
noncomputable def sReadVar_c : List (Nat × Sig) := [(65, sL01In_g), (150, sL01Var_g)]
noncomputable def sReadVar_d : ByteArray × Int × Unit → Option ((Int × Int × Bool × Unit) × Unit) := sReadVar_F.d V sReadVar_c
noncomputable abbrev sReadVar_g : Sig := sReadVar_F.t.sig sReadVar_d
noncomputable def sReadVar_D6 : ByteArray × Int × Int × Int × Int × Unit → Option ((Int × Int × Bool × Unit) × Unit) := sReadVar_F.D V sReadVar_c 6
theorem sReadVar_b (x1 : ByteArray) (x2 : Int) : sReadVar_d (x1, (x2, ())) = bnd (sL01In_d (x2, ((0 : Int), ((ssz x1), ())))) (fun r2 => (cnd (bnot r2.1.1) (some (zPoint, ())) (sReadVar_D6 (x1, (x2, ((0 : Int), ((1 : Int), (x2, ())))))))) := (FnD.eq V sReadVar_c sReadVar_F (x1, (x2, ()))).trans (by kernel_rfl)
theorem sReadVar_q6 (x1 : ByteArray) (x2 : Int) (x3 : Int) (x4 : Int) (x5 : Int) : sReadVar_D6 (x1, (x2, (x3, (x4, (x5, ()))))) = cnd (ilt x5 (ssz x1)) (cnd (ilt x5 (iadd .i64 x2 (5 : Int))) (cnd (inb x5 (ssz x1)) (cnd (nz (128 : Int)) (cnd (inb x5 (ssz x1)) (cnd (ilt (sat x1 x5) (128 : Int)) (cnd (igt (iadd .i64 x3 (imul .i64 (irem (iconv .i64 (sat x1 x5)) (128 : Int)) x4)) (1000000000 : Int)) (some (zPoint, ())) (bnd (sL01Var_d ((iadd .i64 x3 (imul .i64 (irem (iconv .i64 (sat x1 x5)) (128 : Int)) x4)), ())) (fun r5 => (cnd (inb2 x2 (iadd .i64 x5 (1 : Int)) (ssz x1)) (cnd (sne r5.1.1 (ssub x1 x2 (iadd .i64 x5 (1 : Int)))) (some (zPoint, ())) (some (((iadd .i64 x3 (imul .i64 (irem (iconv .i64 (sat x1 x5)) (128 : Int)) x4)), ((iadd .i64 x5 (1 : Int)), (true, ()))), ()))) none)))) (sReadVar_D6 (x1, (x2, ((iadd .i64 x3 (imul .i64 (irem (iconv .i64 (sat x1 x5)) (128 : Int)) x4)), ((imul .i64 x4 (128 : Int)), ((iadd .i64 x5 (1 : Int)), ()))))))) none) none) none) (some (zPoint, ()))) (some (zPoint, ())) := (FnD.eqC V sReadVar_c sReadVar_F 6 (x1, (x2, (x3, (x4, (x5, ())))))).trans (by kernel_rfl)
theorem sReadVar_k : CallsOk Tryz.prog gls gvs 108 sReadVar_g := FnD.ok (F := sReadVar_F) (cs := sReadVar_c) V_ok (kC sL01In_k (kC sL01Var_k kN)) Tryz.func108 (by decide) (by kernel_rfl)
-- spec.ReadShort
noncomputable def sReadShort_F : FnD := { f := 147, fn := Tryz.f147, ps := [pa .str, pa (.int .i64)], rs := [rt .str, rt (.int .i64), rt .bool] }
noncomputable def sReadShort_c : List (Nat × Sig) := [(108, sReadVar_g)]
noncomputable def sReadShort_d : ByteArray × Int × Unit → Option ((ByteArray × Int × Bool × Unit) × Unit) := sReadShort_F.d V sReadShort_c
noncomputable abbrev sReadShort_g : Sig := sReadShort_F.t.sig sReadShort_d
theorem sReadShort_b (x1 : ByteArray) (x2 : Int) : sReadShort_d (x1, (x2, ())) = bnd (sReadVar_d (x1, (x2, ()))) (fun r2 => (cnd (bnot r2.1.2.2.1) (some (zScanner, ())) (cnd (igt r2.1.1 (20000 : Int)) (some (zScanner, ())) (cnd (igt r2.1.1 (isub .i64 (ssz x1) r2.1.2.1)) (some (zScanner, ())) (cnd (inb2 r2.1.2.1 (iadd .i64 r2.1.2.1 r2.1.1) (ssz x1)) (some (((ssub x1 r2.1.2.1 (iadd .i64 r2.1.2.1 r2.1.1)), ((iadd .i64 r2.1.2.1 r2.1.1), (true, ()))), ())) none))))) := (FnD.eq V sReadShort_c sReadShort_F (x1, (x2, ()))).trans (by kernel_rfl)
theorem sReadShort_k : CallsOk Tryz.prog gls gvs 147 sReadShort_g := FnD.ok (F := sReadShort_F) (cs := sReadShort_c) V_ok (kC sReadVar_k kN) Tryz.func147 (by decide) (by kernel_rfl)
-- spec.SumMore
noncomputable def sSumMore_F : FnD := { f := 212, fn := Tryz.f212, ps := [pa (.int .u32), pa .str], rs := [rt (.int .u32)], cuts := [(6, [.val 0 (.int .u32) .sh, .val 1 .str .sh, .val 5 (.int .i64) .sh, .val 6 (.int .i64) .sh]), (2, [.val 0 (.int .u32) .sh, .val 1 .str .sh, .val 5 (.int .i64) .sh])] }
noncomputable def sSumMore_c : List (Nat × Sig) := []
noncomputable def sSumMore_d : Int × ByteArray × Unit → Option ((Int × Unit) × Unit) := sSumMore_F.d V sSumMore_c
noncomputable abbrev sSumMore_g : Sig := sSumMore_F.t.sig sSumMore_d
noncomputable def sSumMore_D6 : Int × ByteArray × Int × Int × Unit → Option ((Int × Unit) × Unit) := sSumMore_F.D V sSumMore_c 6
noncomputable def sSumMore_D2 : Int × ByteArray × Int × Unit → Option ((Int × Unit) × Unit) := sSumMore_F.D V sSumMore_c 2
theorem sSumMore_b (x1 : Int) (x2 : ByteArray) : sSumMore_d (x1, (x2, ())) = sSumMore_D2 (x1, (x2, ((0 : Int), ()))) := (FnD.eq V sSumMore_c sSumMore_F (x1, (x2, ()))).trans (by kernel_rfl)
theorem sSumMore_q6 (x1 : Int) (x2 : ByteArray) (x3 : Int) (x4 : Int) : sSumMore_D6 (x1, (x2, (x3, (x4, ())))) = cnd (ilt x4 (8 : Int)) (cnd (nz (2 : Int)) (cnd (nz (2 : Int)) (cnd (ieq (irem x1 (2 : Int)) (1 : Int)) (sSumMore_D6 ((ixor .u32 (iquo .u32 x1 (2 : Int)) (3558460437 : Int)), (x2, (x3, ((iadd .i64 x4 (1 : Int)), ()))))) (sSumMore_D6 ((iquo .u32 x1 (2 : Int)), (x2, (x3, ((iadd .i64 x4 (1 : Int)), ())))))) none) none) (sSumMore_D2 (x1, (x2, ((iadd .i64 x3 (1 : Int)), ())))) := (FnD.eqC V sSumMore_c sSumMore_F 6 (x1, (x2, (x3, (x4, ()))))).trans (by kernel_rfl)
theorem sSumMore_q2 (x1 : Int) (x2 : ByteArray) (x3 : Int) : sSumMore_D2 (x1, (x2, (x3, ()))) = cnd (ilt x3 (ssz x2)) (cnd (inb x3 (ssz x2)) (sSumMore_D6 ((ixor .u32 x1 (iconv .u32 (sat x2 x3))), (x2, (x3, ((0 : Int), ()))))) none) (some ((x1, ()), ())) := (FnD.eqC V sSumMore_c sSumMore_F 2 (x1, (x2, (x3, ())))).trans (by kernel_rfl)
theorem sSumMore_k : CallsOk Tryz.prog gls gvs 212 sSumMore_g := FnD.ok (F := sSumMore_F) (cs := sSumMore_c) V_ok kN Tryz.func212 (by decide) (by kernel_rfl)
-- spec.SumOf
noncomputable def sSumOf_F : FnD := { f := 156, fn := Tryz.f156, ps := [pa .str], rs := [rt (.int .u32)] }
noncomputable def sSumOf_c : List (Nat × Sig) := [(212, sSumMore_g)]
noncomputable def sSumOf_d : ByteArray × Unit → Option ((Int × Unit) × Unit) := sSumOf_F.d V sSumOf_c
noncomputable abbrev sSumOf_g : Sig := sSumOf_F.t.sig sSumOf_d
theorem sSumOf_b (x1 : ByteArray) : sSumOf_d (x1, ()) = bnd (sSumMore_d ((4294967295 : Int), (x1, ()))) (fun r1 => (some ((r1.1.1, ()), ()))) := (FnD.eq V sSumOf_c sSumOf_F (x1, ())).trans (by kernel_rfl)
theorem sSumOf_k : CallsOk Tryz.prog gls gvs 156 sSumOf_g := FnD.ok (F := sSumOf_F) (cs := sSumOf_c) V_ok (kC sSumMore_k kN) Tryz.func156 (by decide) (by kernel_rfl)
-- spec.l02Four
noncomputable def sL02Four_F : FnD := { f := 155, fn := Tryz.f155, ps := [pa (.int .u32)], rs := [rt .str] }
noncomputable def sL02Four_c : List (Nat × Sig) := []
noncomputable def sL02Four_d : Int × Unit → Option ((ByteArray × Unit) × Unit) := sL02Four_F.d V sL02Four_c
noncomputable abbrev sL02Four_g : Sig := sL02Four_F.t.sig sL02Four_d
theorem sL02Four_b (x1 : Int) : sL02Four_d (x1, ()) = cnd (nn (24 : Int)) (cnd (nn (16 : Int)) (cnd (nn (8 : Int)) (some (((sof ((iconv .u8 (ishr .u32 x1 (24 : Int))) :: ((iconv .u8 (ishr .u32 x1 (16 : Int))) :: ((iconv .u8 (ishr .u32 x1 (8 : Int))) :: ((iconv .u8 x1) :: ([] : List Int)))))), ()), ())) none) none) none := (FnD.eq V sL02Four_c sL02Four_F (x1, ())).trans (by kernel_rfl)
theorem sL02Four_k : CallsOk Tryz.prog gls gvs 155 sL02Four_g := FnD.ok (F := sL02Four_F) (cs := sL02Four_c) V_ok kN Tryz.func155 (by decide) (by kernel_rfl)
-- spec.Sealed
noncomputable def sSealed_F : FnD := { f := 168, fn := Tryz.f168, ps := [pa .str], rs := [rt .str, rt .bool] }
noncomputable def sSealed_c : List (Nat × Sig) := [(156, sSumOf_g), (155, sL02Four_g)]
noncomputable def sSealed_d : ByteArray × Unit → Option ((ByteArray × Bool × Unit) × Unit) := sSealed_F.d V sSealed_c
noncomputable abbrev sSealed_g : Sig := sSealed_F.t.sig sSealed_d
theorem sSealed_b (x1 : ByteArray) : sSealed_d (x1, ()) = cnd (igt (ssz x1) (20000 : Int)) (some (zL21Cur, ())) (bnd (sSumOf_d (x1, ())) (fun r1 => (bnd (sL02Four_d (r1.1.1, ())) (fun r2 => (cnd (fits ((ssz x1) + (ssz r2.1.1)) 1) (some (((scat x1 r2.1.1), (true, ())), ())) none))))) := (FnD.eq V sSealed_c sSealed_F (x1, ())).trans (by kernel_rfl)
theorem sSealed_k : CallsOk Tryz.prog gls gvs 168 sSealed_g := FnD.ok (F := sSealed_F) (cs := sSealed_c) V_ok (kC sSumOf_k (kC sL02Four_k kN)) Tryz.func168 (by decide) (by kernel_rfl)
-- spec.RecordText
noncomputable def sRecordText_F : FnD := { f := 148, fn := Tryz.f148, ps := [pa .str], rs := [rt .str, rt .bool] }
noncomputable def sRecordText_c : List (Nat × Sig) := [(65, sL01In_g), (150, sL01Var_g), (168, sSealed_g)]
noncomputable def sRecordText_d : ByteArray × Unit → Option ((ByteArray × Bool × Unit) × Unit) := sRecordText_F.d V sRecordText_c
noncomputable abbrev sRecordText_g : Sig := sRecordText_F.t.sig sRecordText_d
theorem sRecordText_b (x1 : ByteArray) : sRecordText_d (x1, ()) = bnd (sL01In_d ((ssz x1), ((1 : Int), ((700 : Int), ())))) (fun r1 => (cnd (bnot r1.1.1) (some (zL21Cur, ())) (bnd (sL01Var_d ((ssz x1), ())) (fun r2 => (cnd (fits ((ssz r2.1.1) + (ssz x1)) 1) (bnd (sSealed_d ((scat r2.1.1 x1), ())) (fun r3 => (some ((r3.1.1, (r3.1.2.1, ())), ())))) none))))) := (FnD.eq V sRecordText_c sRecordText_F (x1, ())).trans (by kernel_rfl)
theorem sRecordText_k : CallsOk Tryz.prog gls gvs 148 sRecordText_g := FnD.ok (F := sRecordText_F) (cs := sRecordText_c) V_ok (kC sL01In_k (kC sL01Var_k (kC sSealed_k kN))) Tryz.func148 (by decide) (by kernel_rfl)
-- spec.l23Read
noncomputable def sL23Read_F : FnD := { f := 91, fn := Tryz.f91, ps := [pa .str, pa (.int .i64)], rs := [rt .str, rt (.int .i64), rt .bool] }
noncomputable def sL23Read_c : List (Nat × Sig) := [(147, sReadShort_g), (148, sRecordText_g)]
noncomputable def sL23Read_d : ByteArray × Int × Unit → Option ((ByteArray × Int × Bool × Unit) × Unit) := sL23Read_F.d V sL23Read_c
noncomputable abbrev sL23Read_g : Sig := sL23Read_F.t.sig sL23Read_d
theorem sL23Read_b (x1 : ByteArray) (x2 : Int) : sL23Read_d (x1, (x2, ())) = bnd (sReadShort_d (x1, (x2, ()))) (fun r2 => (cnd (bnot r2.1.2.2.1) (some (zScanner, ())) (cnd (igt r2.1.2.1 (isub .i64 (ssz x1) (4 : Int))) (some (zScanner, ())) (bnd (sRecordText_d (r2.1.1, ())) (fun r3 => (cnd (bnot r3.1.2.1) (some (zScanner, ())) (cnd (inb2 x2 (iadd .i64 r2.1.2.1 (4 : Int)) (ssz x1)) (cnd (sne r3.1.1 (ssub x1 x2 (iadd .i64 r2.1.2.1 (4 : Int)))) (some (zScanner, ())) (some ((r2.1.1, ((iadd .i64 r2.1.2.1 (4 : Int)), (true, ()))), ()))) none))))))) := (FnD.eq V sL23Read_c sL23Read_F (x1, (x2, ()))).trans (by kernel_rfl)
theorem sL23Read_k : CallsOk Tryz.prog gls gvs 91 sL23Read_g := FnD.ok (F := sL23Read_F) (cs := sL23Read_c) V_ok (kC sReadShort_k (kC sRecordText_k kN)) Tryz.func91 (by decide) (by kernel_rfl)
-- spec.ReadJournal
noncomputable def sReadJournal_F : FnD := { f := 35, fn := Tryz.f35, ps := [pa .str], rs := [⟨(.sl .str), (.own 0 .sh), false⟩, rt (.int .i64)], cuts := [(3, [.val 0 .str .sh, .val 4 (.sl .str) (.own 0 .sh), .val 5 (.int .i64) .sh])] }
noncomputable def sReadJournal_c : List (Nat × Sig) := [(91, sL23Read_g)]
noncomputable def sReadJournal_d : ByteArray × Unit → Option (((List ByteArray) × Int × Unit) × Unit) := sReadJournal_F.d V sReadJournal_c
noncomputable abbrev sReadJournal_g : Sig := sReadJournal_F.t.sig sReadJournal_d
noncomputable def sReadJournal_D3 : ByteArray × (List ByteArray) × Int × Unit → Option (((List ByteArray) × Int × Unit) × Unit) := sReadJournal_F.D V sReadJournal_c 3
theorem sReadJournal_b (x1 : ByteArray) : sReadJournal_d (x1, ()) = sReadJournal_D3 (x1, (([] : List ByteArray), ((0 : Int), ()))) := (FnD.eq V sReadJournal_c sReadJournal_F (x1, ())).trans (by kernel_rfl)
theorem sReadJournal_q3 (x1 : ByteArray) (x2 : (List ByteArray)) (x3 : Int) : sReadJournal_D3 (x1, (x2, (x3, ()))) = bnd (sL23Read_d (x1, (x3, ()))) (fun r3 => (cnd (bnot r3.1.2.2.1) (some ((x2, (x3, ())), ())) (cnd (fits ((len x2) + (len (r3.1.1 :: ([] : List ByteArray)))) 1) (sReadJournal_D3 (x1, ((app x2 (r3.1.1 :: ([] : List ByteArray))), (r3.1.2.1, ())))) none))) := (FnD.eqC V sReadJournal_c sReadJournal_F 3 (x1, (x2, (x3, ())))).trans (by kernel_rfl)
theorem sReadJournal_k : CallsOk Tryz.prog gls gvs 35 sReadJournal_g := FnD.ok (F := sReadJournal_F) (cs := sReadJournal_c) V_ok (kC sL23Read_k kN) Tryz.func35 (by decide) (by kernel_rfl)
-- spec.HeadOk
noncomputable def sHeadOk_F : FnD := { f := 132, fn := Tryz.f132, ps := [pa THead], rs := [rt .bool] }
noncomputable def sHeadOk_c : List (Nat × Sig) := [(65, sL01In_g)]
noncomputable def sHeadOk_d : tHead × Unit → Option ((Bool × Unit) × Unit) := sHeadOk_F.d V sHeadOk_c
noncomputable abbrev sHeadOk_g : Sig := sHeadOk_F.t.sig sHeadOk_d
theorem sHeadOk_b (x1 : tHead) : sHeadOk_d (x1, ()) = bnd (sL01In_d (x1.1, ((0 : Int), ((10000 : Int), ())))) (fun r1 => (cnd r1.1.1 (cnd (ieq (ssz x1.2.1) (32 : Int)) (cnd (ieq (ssz x1.2.2.1) (32 : Int)) (some (((ieq (ssz x1.2.2.2.1) (32 : Int)), ()), ())) (some ((false, ()), ()))) (some ((false, ()), ()))) (some ((false, ()), ())))) := (FnD.eq V sHeadOk_c sHeadOk_F (x1, ())).trans (by kernel_rfl)
theorem sHeadOk_k : CallsOk Tryz.prog gls gvs 132 sHeadOk_g := FnD.ok (F := sHeadOk_F) (cs := sHeadOk_c) V_ok (kC sL01In_k kN) Tryz.func132 (by decide) (by kernel_rfl)
-- spec.KeccakPad
noncomputable def sKeccakPad_F : FnD := { f := 254, fn := Tryz.f254, ps := [pa .str], rs := [rt .str], cuts := [(3, [.val 3 (.sl (.int .u8)) (.own 0 .sh)])] }
noncomputable def sKeccakPad_c : List (Nat × Sig) := []
noncomputable def sKeccakPad_d : ByteArray × Unit → Option ((ByteArray × Unit) × Unit) := sKeccakPad_F.d V sKeccakPad_c
noncomputable abbrev sKeccakPad_g : Sig := sKeccakPad_F.t.sig sKeccakPad_d
noncomputable def sKeccakPad_D3 : (List Int) × Unit → Option ((ByteArray × Unit) × Unit) := sKeccakPad_F.D V sKeccakPad_c 3
theorem sKeccakPad_b (x1 : ByteArray) : sKeccakPad_d (x1, ()) = cnd (fits ((len (sbytes x1)) + (len ((1 : Int) :: ([] : List Int)))) 1) (sKeccakPad_D3 ((app (sbytes x1) ((1 : Int) :: ([] : List Int))), ())) none := (FnD.eq V sKeccakPad_c sKeccakPad_F (x1, ())).trans (by kernel_rfl)
theorem sKeccakPad_q3 (x1 : (List Int)) : sKeccakPad_D3 (x1, ()) = cnd (nz (136 : Int)) (cnd (ine (irem (len x1) (136 : Int)) (0 : Int)) (cnd (fits ((len x1) + (len ((0 : Int) :: ([] : List Int)))) 1) (sKeccakPad_D3 ((app x1 ((0 : Int) :: ([] : List Int))), ())) none) (cnd (inb (isub .i64 (len x1) (1 : Int)) (len x1)) (cnd (inb (isub .i64 (len x1) (1 : Int)) (len x1)) (some (((sof (upd x1 (isub .i64 (len x1) (1 : Int)) (ior .u8 (rd (0 : Int) x1 (isub .i64 (len x1) (1 : Int))) (128 : Int)))), ()), ())) none) none)) none := (FnD.eqC V sKeccakPad_c sKeccakPad_F 3 (x1, ())).trans (by kernel_rfl)
theorem sKeccakPad_k : CallsOk Tryz.prog gls gvs 254 sKeccakPad_g := FnD.ok (F := sKeccakPad_F) (cs := sKeccakPad_c) V_ok kN Tryz.func254 (by decide) (by kernel_rfl)
-- spec.l03Word
noncomputable def sL03Word_F : FnD := { f := 255, fn := Tryz.f255, ps := [pa .str, pa (.int .i64)], rs := [rt (.int .u64)], cuts := [(3, [.val 0 .str .sh, .val 1 (.int .i64) .sh, .val 5 (.int .u64) .sh, .val 6 (.int .i64) .sh])] }
noncomputable def sL03Word_c : List (Nat × Sig) := []
noncomputable def sL03Word_d : ByteArray × Int × Unit → Option ((Int × Unit) × Unit) := sL03Word_F.d V sL03Word_c
noncomputable abbrev sL03Word_g : Sig := sL03Word_F.t.sig sL03Word_d
noncomputable def sL03Word_D3 : ByteArray × Int × Int × Int × Unit → Option ((Int × Unit) × Unit) := sL03Word_F.D V sL03Word_c 3
theorem sL03Word_b (x1 : ByteArray) (x2 : Int) : sL03Word_d (x1, (x2, ())) = sL03Word_D3 (x1, (x2, ((0 : Int), ((7 : Int), ())))) := (FnD.eq V sL03Word_c sL03Word_F (x1, (x2, ()))).trans (by kernel_rfl)
theorem sL03Word_q3 (x1 : ByteArray) (x2 : Int) (x3 : Int) (x4 : Int) : sL03Word_D3 (x1, (x2, (x3, (x4, ())))) = cnd (ige x4 (0 : Int)) (cnd (nn (8 : Int)) (cnd (inb (iadd .i64 x2 x4) (ssz x1)) (sL03Word_D3 (x1, (x2, ((ior .u64 (ishl .u64 x3 (8 : Int)) (iconv .u64 (sat x1 (iadd .i64 x2 x4)))), ((isub .i64 x4 (1 : Int)), ()))))) none) none) (some ((x3, ()), ())) := (FnD.eqC V sL03Word_c sL03Word_F 3 (x1, (x2, (x3, (x4, ()))))).trans (by kernel_rfl)
theorem sL03Word_k : CallsOk Tryz.prog gls gvs 255 sL03Word_g := FnD.ok (F := sL03Word_F) (cs := sL03Word_c) V_ok kN Tryz.func255 (by decide) (by kernel_rfl)
-- spec.l03Offsets
noncomputable def sL03Offsets_F : FnD := { f := 293, fn := Tryz.f293, ps := [], rs := [rt (.arr 25 (.int .u64))] }
noncomputable def sL03Offsets_c : List (Nat × Sig) := []
noncomputable def sL03Offsets_d : Unit → Option (((List Int) × Unit) × Unit) := sL03Offsets_F.d V sL03Offsets_c
noncomputable abbrev sL03Offsets_g : Sig := sL03Offsets_F.t.sig sL03Offsets_d
theorem sL03Offsets_b : sL03Offsets_d () = some ((((0 : Int) :: ((1 : Int) :: ((62 : Int) :: ((28 : Int) :: ((27 : Int) :: ((36 : Int) :: ((44 : Int) :: ((6 : Int) :: ((55 : Int) :: ((20 : Int) :: ((3 : Int) :: ((10 : Int) :: ((43 : Int) :: ((25 : Int) :: ((39 : Int) :: ((41 : Int) :: ((45 : Int) :: ((15 : Int) :: ((21 : Int) :: ((8 : Int) :: ((18 : Int) :: ((2 : Int) :: ((61 : Int) :: ((56 : Int) :: ((14 : Int) :: ([] : List Int)))))))))))))))))))))))))), ()), ()) := (FnD.eq V sL03Offsets_c sL03Offsets_F ()).trans (by kernel_rfl)
theorem sL03Offsets_k : CallsOk Tryz.prog gls gvs 293 sL03Offsets_g := FnD.ok (F := sL03Offsets_F) (cs := sL03Offsets_c) V_ok kN Tryz.func293 (by decide) (by kernel_rfl)
-- spec.l03Rounds
noncomputable def sL03Rounds_F : FnD := { f := 294, fn := Tryz.f294, ps := [], rs := [rt (.arr 24 (.int .u64))] }
noncomputable def sL03Rounds_c : List (Nat × Sig) := []
noncomputable def sL03Rounds_d : Unit → Option (((List Int) × Unit) × Unit) := sL03Rounds_F.d V sL03Rounds_c
noncomputable abbrev sL03Rounds_g : Sig := sL03Rounds_F.t.sig sL03Rounds_d
theorem sL03Rounds_b : sL03Rounds_d () = some ((((1 : Int) :: ((32898 : Int) :: ((9223372036854808714 : Int) :: ((9223372039002292224 : Int) :: ((32907 : Int) :: ((2147483649 : Int) :: ((9223372039002292353 : Int) :: ((9223372036854808585 : Int) :: ((138 : Int) :: ((136 : Int) :: ((2147516425 : Int) :: ((2147483658 : Int) :: ((2147516555 : Int) :: ((9223372036854775947 : Int) :: ((9223372036854808713 : Int) :: ((9223372036854808579 : Int) :: ((9223372036854808578 : Int) :: ((9223372036854775936 : Int) :: ((32778 : Int) :: ((9223372039002259466 : Int) :: ((9223372039002292353 : Int) :: ((9223372036854808704 : Int) :: ((2147483649 : Int) :: ((9223372039002292232 : Int) :: ([] : List Int))))))))))))))))))))))))), ()), ()) := (FnD.eq V sL03Rounds_c sL03Rounds_F ()).trans (by kernel_rfl)
theorem sL03Rounds_k : CallsOk Tryz.prog gls gvs 294 sL03Rounds_g := FnD.ok (F := sL03Rounds_F) (cs := sL03Rounds_c) V_ok kN Tryz.func294 (by decide) (by kernel_rfl)
-- spec.l03Turn
noncomputable def sL03Turn_F : FnD := { f := 308, fn := Tryz.f308, ps := [pa (.int .u64), pa (.int .u64)], rs := [rt (.int .u64)] }
noncomputable def sL03Turn_c : List (Nat × Sig) := []
noncomputable def sL03Turn_d : Int × Int × Unit → Option ((Int × Unit) × Unit) := sL03Turn_F.d V sL03Turn_c
noncomputable abbrev sL03Turn_g : Sig := sL03Turn_F.t.sig sL03Turn_d
theorem sL03Turn_b (x1 : Int) (x2 : Int) : sL03Turn_d (x1, (x2, ())) = cnd (nn x2) (cnd (nn (isub .u64 (64 : Int) x2)) (some (((ior .u64 (ishl .u64 x1 x2) (ishr .u64 x1 (isub .u64 (64 : Int) x2))), ()), ())) none) none := (FnD.eq V sL03Turn_c sL03Turn_F (x1, (x2, ()))).trans (by kernel_rfl)
theorem sL03Turn_k : CallsOk Tryz.prog gls gvs 308 sL03Turn_g := FnD.ok (F := sL03Turn_F) (cs := sL03Turn_c) V_ok kN Tryz.func308 (by decide) (by kernel_rfl)
-- spec.l03Round
noncomputable def sL03Round_F : FnD := { f := 295, fn := Tryz.f295, ps := [pa (.arr 25 (.int .u64)), pa (.arr 25 (.int .u64)), pa (.int .u64)], rs := [rt (.arr 25 (.int .u64))], joins := [18], cuts := [(3, [.val 2 (.int .u64) .sh, .val 8 (.int .i64) .sh, .box 3 (.arr 25 (.int .u64)) .sh, .box 4 (.arr 25 (.int .u64)) .sh, .box 6 (.arr 25 (.int .u64)) .sh, .box 7 (.arr 5 (.int .u64)) .sh, .ptr 3 3 0, .ptr 4 4 0, .ptr 6 6 0, .ptr 7 7 0]), (18, [.val 2 (.int .u64) .sh, .val 10 (.int .i64) .sh, .val 11 (.int .u64) .sh, .val 12 (.int .i64) .sh, .val 13 (.int .u64) .sh, .box 3 (.arr 25 (.int .u64)) .sh, .box 4 (.arr 25 (.int .u64)) .sh, .box 6 (.arr 25 (.int .u64)) .sh, .box 7 (.arr 5 (.int .u64)) .sh, .box 9 (.arr 25 (.int .u64)) .sh, .ptr 3 3 0, .ptr 4 4 0, .ptr 6 6 0, .ptr 7 7 0, .ptr 9 9 0]), (12, [.val 2 (.int .u64) .sh, .val 10 (.int .i64) .sh, .val 11 (.int .u64) .sh, .val 12 (.int .i64) .sh, .box 3 (.arr 25 (.int .u64)) .sh, .box 4 (.arr 25 (.int .u64)) .sh, .box 6 (.arr 25 (.int .u64)) .sh, .box 7 (.arr 5 (.int .u64)) .sh, .box 9 (.arr 25 (.int .u64)) .sh, .ptr 3 3 0, .ptr 4 4 0, .ptr 6 6 0, .ptr 7 7 0, .ptr 9 9 0]), (8, [.val 2 (.int .u64) .sh, .val 10 (.int .i64) .sh, .box 3 (.arr 25 (.int .u64)) .sh, .box 4 (.arr 25 (.int .u64)) .sh, .box 6 (.arr 25 (.int .u64)) .sh, .box 7 (.arr 5 (.int .u64)) .sh, .box 9 (.arr 25 (.int .u64)) .sh, .ptr 3 3 0, .ptr 4 4 0, .ptr 6 6 0, .ptr 7 7 0, .ptr 9 9 0]), (23, [.val 2 (.int .u64) .sh, .val 15 (.int .i64) .sh, .val 16 (.int .i64) .sh, .box 3 (.arr 25 (.int .u64)) .sh, .box 6 (.arr 25 (.int .u64)) .sh, .box 9 (.arr 25 (.int .u64)) .sh, .ptr 3 3 0, .ptr 6 6 0, .ptr 9 9 0]), (20, [.val 2 (.int .u64) .sh, .val 15 (.int .i64) .sh, .box 3 (.arr 25 (.int .u64)) .sh, .box 6 (.arr 25 (.int .u64)) .sh, .box 9 (.arr 25 (.int .u64)) .sh, .ptr 3 3 0, .ptr 6 6 0, .ptr 9 9 0])] }
noncomputable def sL03Round_c : List (Nat × Sig) := [(308, sL03Turn_g)]
noncomputable def sL03Round_d : (List Int) × (List Int) × Int × Unit → Option (((List Int) × Unit) × Unit) := sL03Round_F.d V sL03Round_c
noncomputable abbrev sL03Round_g : Sig := sL03Round_F.t.sig sL03Round_d
noncomputable def sL03Round_D3 : Int × Int × (List Int) × (List Int) × (List Int) × (List Int) × Unit → Option (((List Int) × Unit) × Unit) := sL03Round_F.D V sL03Round_c 3
noncomputable def sL03Round_D18 : Int × Int × Int × Int × Int × (List Int) × (List Int) × (List Int) × (List Int) × (List Int) × Unit → Option (((List Int) × Unit) × Unit) := sL03Round_F.D V sL03Round_c 18
noncomputable def sL03Round_D12 : Int × Int × Int × Int × (List Int) × (List Int) × (List Int) × (List Int) × (List Int) × Unit → Option (((List Int) × Unit) × Unit) := sL03Round_F.D V sL03Round_c 12
noncomputable def sL03Round_D8 : Int × Int × (List Int) × (List Int) × (List Int) × (List Int) × (List Int) × Unit → Option (((List Int) × Unit) × Unit) := sL03Round_F.D V sL03Round_c 8
noncomputable def sL03Round_D23 : Int × Int × Int × (List Int) × (List Int) × (List Int) × Unit → Option (((List Int) × Unit) × Unit) := sL03Round_F.D V sL03Round_c 23
noncomputable def sL03Round_D20 : Int × Int × (List Int) × (List Int) × (List Int) × Unit → Option (((List Int) × Unit) × Unit) := sL03Round_F.D V sL03Round_c 20
theorem sL03Round_b (x1 : (List Int)) (x2 : (List Int)) (x3 : Int) : sL03Round_d (x1, (x2, (x3, ()))) = sL03Round_D3 (x3, ((0 : Int), (x1, (x2, (((0 : Int) :: ((0 : Int) :: ((0 : Int) :: ((0 : Int) :: ((0 : Int) :: ((0 : Int) :: ((0 : Int) :: ((0 : Int) :: ((0 : Int) :: ((0 : Int) :: ((0 : Int) :: ((0 : Int) :: ((0 : Int) :: ((0 : Int) :: ((0 : Int) :: ((0 : Int) :: ((0 : Int) :: ((0 : Int) :: ((0 : Int) :: ((0 : Int) :: ((0 : Int) :: ((0 : Int) :: ((0 : Int) :: ((0 : Int) :: ((0 : Int) :: ([] : List Int)))))))))))))))))))))))))), (((0 : Int) :: ((0 : Int) :: ((0 : Int) :: ((0 : Int) :: ((0 : Int) :: ([] : List Int)))))), ())))))) := (FnD.eq V sL03Round_c sL03Round_F (x1, (x2, (x3, ())))).trans (by kernel_rfl)
theorem sL03Round_q3 (x1 : Int) (x2 : Int) (x3 : (List Int)) (x4 : (List Int)) (x5 : (List Int)) (x6 : (List Int)) : sL03Round_D3 (x1, (x2, (x3, (x4, (x5, (x6, ())))))) = cnd (ilt x2 (5 : Int)) (cnd (inb x2 (25 : Int)) (cnd (inb (iadd .i64 x2 (5 : Int)) (25 : Int)) (cnd (inb (iadd .i64 x2 (10 : Int)) (25 : Int)) (cnd (inb (iadd .i64 x2 (15 : Int)) (25 : Int)) (cnd (inb (iadd .i64 x2 (20 : Int)) (25 : Int)) (cnd (inb x2 (5 : Int)) (sL03Round_D3 (x1, ((iadd .i64 x2 (1 : Int)), (x3, (x4, (x5, ((upd x6 x2 (ixor .u64 (ixor .u64 (ixor .u64 (ixor .u64 (rd (0 : Int) x3 x2) (rd (0 : Int) x3 (iadd .i64 x2 (5 : Int)))) (rd (0 : Int) x3 (iadd .i64 x2 (10 : Int)))) (rd (0 : Int) x3 (iadd .i64 x2 (15 : Int)))) (rd (0 : Int) x3 (iadd .i64 x2 (20 : Int))))), ()))))))) none) none) none) none) none) none) (sL03Round_D8 (x1, ((0 : Int), (x3, (x4, (x5, (x6, (((0 : Int) :: ((0 : Int) :: ((0 : Int) :: ((0 : Int) :: ((0 : Int) :: ((0 : Int) :: ((0 : Int) :: ((0 : Int) :: ((0 : Int) :: ((0 : Int) :: ((0 : Int) :: ((0 : Int) :: ((0 : Int) :: ((0 : Int) :: ((0 : Int) :: ((0 : Int) :: ((0 : Int) :: ((0 : Int) :: ((0 : Int) :: ((0 : Int) :: ((0 : Int) :: ((0 : Int) :: ((0 : Int) :: ((0 : Int) :: ((0 : Int) :: ([] : List Int)))))))))))))))))))))))))), ())))))))) := (FnD.eqC V sL03Round_c sL03Round_F 3 (x1, (x2, (x3, (x4, (x5, (x6, ()))))))).trans (by kernel_rfl)
theorem sL03Round_q18 (x1 : Int) (x2 : Int) (x3 : Int) (x4 : Int) (x5 : Int) (x6 : (List Int)) (x7 : (List Int)) (x8 : (List Int)) (x9 : (List Int)) (x10 : (List Int)) : sL03Round_D18 (x1, (x2, (x3, (x4, (x5, (x6, (x7, (x8, (x9, (x10, ())))))))))) = cnd (nz (5 : Int)) (cnd (inb (iadd .i64 x4 (imul .i64 (5 : Int) (irem (iadd .i64 (imul .i64 (2 : Int) x2) (imul .i64 (3 : Int) x4)) (5 : Int)))) (25 : Int)) (sL03Round_D12 (x1, (x2, (x3, ((iadd .i64 x4 (1 : Int)), (x6, (x7, (x8, (x9, ((upd x10 (iadd .i64 x4 (imul .i64 (5 : Int) (irem (iadd .i64 (imul .i64 (2 : Int) x2) (imul .i64 (3 : Int) x4)) (5 : Int)))) x5), ())))))))))) none) none := (FnD.eqC V sL03Round_c sL03Round_F 18 (x1, (x2, (x3, (x4, (x5, (x6, (x7, (x8, (x9, (x10, ()))))))))))).trans (by kernel_rfl)
theorem sL03Round_q12 (x1 : Int) (x2 : Int) (x3 : Int) (x4 : Int) (x5 : (List Int)) (x6 : (List Int)) (x7 : (List Int)) (x8 : (List Int)) (x9 : (List Int)) : sL03Round_D12 (x1, (x2, (x3, (x4, (x5, (x6, (x7, (x8, (x9, ()))))))))) = cnd (ilt x4 (5 : Int)) (cnd (inb (iadd .i64 x2 (imul .i64 (5 : Int) x4)) (25 : Int)) (cnd (inb (iadd .i64 x2 (imul .i64 (5 : Int) x4)) (25 : Int)) (cnd (igt (rd (0 : Int) x6 (iadd .i64 x2 (imul .i64 (5 : Int) x4))) (0 : Int)) (bnd (sL03Turn_d ((ixor .u64 (rd (0 : Int) x5 (iadd .i64 x2 (imul .i64 (5 : Int) x4))) x3), ((rd (0 : Int) x6 (iadd .i64 x2 (imul .i64 (5 : Int) x4))), ()))) (fun r9 => (sL03Round_D18 (x1, (x2, (x3, (x4, (r9.1.1, (x5, (x6, (x7, (x8, (x9, ()))))))))))))) (sL03Round_D18 (x1, (x2, (x3, (x4, ((ixor .u64 (rd (0 : Int) x5 (iadd .i64 x2 (imul .i64 (5 : Int) x4))) x3), (x5, (x6, (x7, (x8, (x9, ())))))))))))) none) none) (sL03Round_D8 (x1, ((iadd .i64 x2 (1 : Int)), (x5, (x6, (x7, (x8, (x9, ())))))))) := (FnD.eqC V sL03Round_c sL03Round_F 12 (x1, (x2, (x3, (x4, (x5, (x6, (x7, (x8, (x9, ())))))))))).trans (by kernel_rfl)
theorem sL03Round_q8 (x1 : Int) (x2 : Int) (x3 : (List Int)) (x4 : (List Int)) (x5 : (List Int)) (x6 : (List Int)) (x7 : (List Int)) : sL03Round_D8 (x1, (x2, (x3, (x4, (x5, (x6, (x7, ()))))))) = cnd (ilt x2 (5 : Int)) (cnd (nz (5 : Int)) (cnd (inb (irem (iadd .i64 x2 (4 : Int)) (5 : Int)) (5 : Int)) (cnd (nz (5 : Int)) (cnd (inb (irem (iadd .i64 x2 (1 : Int)) (5 : Int)) (5 : Int)) (bnd (sL03Turn_d ((rd (0 : Int) x6 (irem (iadd .i64 x2 (1 : Int)) (5 : Int))), ((1 : Int), ()))) (fun r7 => (sL03Round_D12 (x1, (x2, ((ixor .u64 (rd (0 : Int) x6 (irem (iadd .i64 x2 (4 : Int)) (5 : Int))) r7.1.1), ((0 : Int), (x3, (x4, (x5, (x6, (x7, ())))))))))))) none) none) none) none) (sL03Round_D20 (x1, ((0 : Int), (x3, (x5, (x7, ())))))) := (FnD.eqC V sL03Round_c sL03Round_F 8 (x1, (x2, (x3, (x4, (x5, (x6, (x7, ())))))))).trans (by kernel_rfl)
theorem sL03Round_q23 (x1 : Int) (x2 : Int) (x3 : Int) (x4 : (List Int)) (x5 : (List Int)) (x6 : (List Int)) : sL03Round_D23 (x1, (x2, (x3, (x4, (x5, (x6, ())))))) = cnd (ilt x3 (5 : Int)) (cnd (inb (iadd .i64 x3 (imul .i64 (5 : Int) x2)) (25 : Int)) (cnd (nz (5 : Int)) (cnd (inb (iadd .i64 (irem (iadd .i64 x3 (1 : Int)) (5 : Int)) (imul .i64 (5 : Int) x2)) (25 : Int)) (cnd (nz (5 : Int)) (cnd (inb (iadd .i64 (irem (iadd .i64 x3 (2 : Int)) (5 : Int)) (imul .i64 (5 : Int) x2)) (25 : Int)) (cnd (inb (iadd .i64 x3 (imul .i64 (5 : Int) x2)) (25 : Int)) (sL03Round_D23 (x1, (x2, ((iadd .i64 x3 (1 : Int)), ((upd x4 (iadd .i64 x3 (imul .i64 (5 : Int) x2)) (ixor .u64 (rd (0 : Int) x6 (iadd .i64 x3 (imul .i64 (5 : Int) x2))) (iand .u64 (ixor .u64 (rd (0 : Int) x6 (iadd .i64 (irem (iadd .i64 x3 (1 : Int)) (5 : Int)) (imul .i64 (5 : Int) x2))) (18446744073709551615 : Int)) (rd (0 : Int) x6 (iadd .i64 (irem (iadd .i64 x3 (2 : Int)) (5 : Int)) (imul .i64 (5 : Int) x2)))))), (x5, (x6, ()))))))) none) none) none) none) none) none) (sL03Round_D20 (x1, ((iadd .i64 x2 (1 : Int)), (x4, (x5, (x6, ())))))) := (FnD.eqC V sL03Round_c sL03Round_F 23 (x1, (x2, (x3, (x4, (x5, (x6, ()))))))).trans (by kernel_rfl)
theorem sL03Round_q20 (x1 : Int) (x2 : Int) (x3 : (List Int)) (x4 : (List Int)) (x5 : (List Int)) : sL03Round_D20 (x1, (x2, (x3, (x4, (x5, ()))))) = cnd (ilt x2 (5 : Int)) (sL03Round_D23 (x1, (x2, ((0 : Int), (x3, (x4, (x5, ()))))))) (cnd (inb (0 : Int) (25 : Int)) (cnd (inb (0 : Int) (25 : Int)) (some (((upd x3 (0 : Int) (ixor .u64 (rd (0 : Int) x3 (0 : Int)) x1)), ()), ())) none) none) := (FnD.eqC V sL03Round_c sL03Round_F 20 (x1, (x2, (x3, (x4, (x5, ())))))).trans (by kernel_rfl)
theorem sL03Round_k : CallsOk Tryz.prog gls gvs 295 sL03Round_g := FnD.ok (F := sL03Round_F) (cs := sL03Round_c) V_ok (kC sL03Turn_k kN) Tryz.func295 (by decide) (by kernel_rfl)
-- spec.l03All
noncomputable def sL03All_F : FnD := { f := 256, fn := Tryz.f256, ps := [pa (.arr 25 (.int .u64))], rs := [rt (.arr 25 (.int .u64))], cuts := [(4, [.val 5 (.int .i64) .sh, .box 1 (.arr 25 (.int .u64)) .sh, .box 2 (.arr 25 (.int .u64)) .sh, .box 3 (.arr 25 (.int .u64)) .sh, .box 4 (.arr 24 (.int .u64)) .sh, .ptr 1 1 0, .ptr 2 2 0, .ptr 3 3 0, .ptr 4 4 0])] }
noncomputable def sL03All_c : List (Nat × Sig) := [(293, sL03Offsets_g), (294, sL03Rounds_g), (295, sL03Round_g)]
noncomputable def sL03All_d : (List Int) × Unit → Option (((List Int) × Unit) × Unit) := sL03All_F.d V sL03All_c
noncomputable abbrev sL03All_g : Sig := sL03All_F.t.sig sL03All_d
noncomputable def sL03All_D4 : Int × (List Int) × (List Int) × (List Int) × (List Int) × Unit → Option (((List Int) × Unit) × Unit) := sL03All_F.D V sL03All_c 4
theorem sL03All_b (x1 : (List Int)) : sL03All_d (x1, ()) = bnd (sL03Offsets_d ()) (fun r1 => (bnd (sL03Rounds_d ()) (fun r2 => (sL03All_D4 ((0 : Int), (x1, (((0 : Int) :: ((0 : Int) :: ((0 : Int) :: ((0 : Int) :: ((0 : Int) :: ((0 : Int) :: ((0 : Int) :: ((0 : Int) :: ((0 : Int) :: ((0 : Int) :: ((0 : Int) :: ((0 : Int) :: ((0 : Int) :: ((0 : Int) :: ((0 : Int) :: ((0 : Int) :: ((0 : Int) :: ((0 : Int) :: ((0 : Int) :: ((0 : Int) :: ((0 : Int) :: ((0 : Int) :: ((0 : Int) :: ((0 : Int) :: ((0 : Int) :: ([] : List Int)))))))))))))))))))))))))), (r1.1.1, (r2.1.1, ()))))))))) := (FnD.eq V sL03All_c sL03All_F (x1, ())).trans (by kernel_rfl)
theorem sL03All_q4 (x1 : Int) (x2 : (List Int)) (x3 : (List Int)) (x4 : (List Int)) (x5 : (List Int)) : sL03All_D4 (x1, (x2, (x3, (x4, (x5, ()))))) = cnd (ilt x1 (24 : Int)) (cnd (inb x1 (24 : Int)) (bnd (sL03Round_d (x2, (x4, ((rd (0 : Int) x5 x1), ())))) (fun r5 => (sL03All_D4 ((iadd .i64 x1 (1 : Int)), (r5.1.1, (x3, (x4, (x5, ())))))))) none) (some ((x2, ()), ())) := (FnD.eqC V sL03All_c sL03All_F 4 (x1, (x2, (x3, (x4, (x5, ())))))).trans (by kernel_rfl)
theorem sL03All_k : CallsOk Tryz.prog gls gvs 256 sL03All_g := FnD.ok (F := sL03All_F) (cs := sL03All_c) V_ok (kC sL03Offsets_k (kC sL03Rounds_k (kC sL03Round_k kN))) Tryz.func256 (by decide) (by kernel_rfl)
-- spec.l03Text
noncomputable def sL03Text_F : FnD := { f := 257, fn := Tryz.f257, ps := [pa (.arr 25 (.int .u64))], rs := [rt .str], cuts := [(3, [.val 3 (.sl (.int .u8)) (.own 0 .sh), .val 4 (.int .i64) .sh, .box 1 (.arr 25 (.int .u64)) .sh, .ptr 1 1 0])] }
noncomputable def sL03Text_c : List (Nat × Sig) := []
noncomputable def sL03Text_d : (List Int) × Unit → Option ((ByteArray × Unit) × Unit) := sL03Text_F.d V sL03Text_c
noncomputable abbrev sL03Text_g : Sig := sL03Text_F.t.sig sL03Text_d
noncomputable def sL03Text_D3 : (List Int) × Int × (List Int) × Unit → Option ((ByteArray × Unit) × Unit) := sL03Text_F.D V sL03Text_c 3
theorem sL03Text_b (x1 : (List Int)) : sL03Text_d (x1, ()) = cnd (both (inb2 (0 : Int) (200 : Int) (200 : Int)) (fits (200 : Int) 1)) (sL03Text_D3 ((rep (200 : Int) (0 : Int)), ((0 : Int), (x1, ())))) none := (FnD.eq V sL03Text_c sL03Text_F (x1, ())).trans (by kernel_rfl)
theorem sL03Text_q3 (x1 : (List Int)) (x2 : Int) (x3 : (List Int)) : sL03Text_D3 (x1, (x2, (x3, ()))) = cnd (ilt x2 (200 : Int)) (cnd (nz (8 : Int)) (cnd (inb (iquo .i64 x2 (8 : Int)) (25 : Int)) (cnd (nz (8 : Int)) (cnd (nn (imul .u64 (8 : Int) (iconv .u64 (irem x2 (8 : Int))))) (cnd (inb x2 (len x1)) (sL03Text_D3 ((upd x1 x2 (iconv .u8 (ishr .u64 (rd (0 : Int) x3 (iquo .i64 x2 (8 : Int))) (imul .u64 (8 : Int) (iconv .u64 (irem x2 (8 : Int))))))), ((iadd .i64 x2 (1 : Int)), (x3, ())))) none) none) none) none) none) (some (((sof x1), ()), ())) := (FnD.eqC V sL03Text_c sL03Text_F 3 (x1, (x2, (x3, ())))).trans (by kernel_rfl)
theorem sL03Text_k : CallsOk Tryz.prog gls gvs 257 sL03Text_g := FnD.ok (F := sL03Text_F) (cs := sL03Text_c) V_ok kN Tryz.func257 (by decide) (by kernel_rfl)
-- spec.Digest
noncomputable def sDigest_F : FnD := { f := 220, fn := Tryz.f220, ps := [pa .str], rs := [rt .str], cuts := [(7, [.val 3 .str .sh, .val 5 (.int .i64) .sh, .val 6 (.int .i64) .sh, .box 4 (.arr 25 (.int .u64)) .sh, .ptr 4 4 0]), (4, [.val 3 .str .sh, .val 5 (.int .i64) .sh, .box 4 (.arr 25 (.int .u64)) .sh, .ptr 4 4 0])] }
noncomputable def sDigest_c : List (Nat × Sig) := [(254, sKeccakPad_g), (255, sL03Word_g), (256, sL03All_g), (257, sL03Text_g)]
noncomputable def sDigest_d : ByteArray × Unit → Option ((ByteArray × Unit) × Unit) := sDigest_F.d V sDigest_c
noncomputable abbrev sDigest_g : Sig := sDigest_F.t.sig sDigest_d
noncomputable def sDigest_D7 : ByteArray × Int × Int × (List Int) × Unit → Option ((ByteArray × Unit) × Unit) := sDigest_F.D V sDigest_c 7
noncomputable def sDigest_D4 : ByteArray × Int × (List Int) × Unit → Option ((ByteArray × Unit) × Unit) := sDigest_F.D V sDigest_c 4
theorem sDigest_b (x1 : ByteArray) : sDigest_d (x1, ()) = bnd (sKeccakPad_d (x1, ())) (fun r1 => (sDigest_D4 (r1.1.1, ((0 : Int), (((0 : Int) :: ((0 : Int) :: ((0 : Int) :: ((0 : Int) :: ((0 : Int) :: ((0 : Int) :: ((0 : Int) :: ((0 : Int) :: ((0 : Int) :: ((0 : Int) :: ((0 : Int) :: ((0 : Int) :: ((0 : Int) :: ((0 : Int) :: ((0 : Int) :: ((0 : Int) :: ((0 : Int) :: ((0 : Int) :: ((0 : Int) :: ((0 : Int) :: ((0 : Int) :: ((0 : Int) :: ((0 : Int) :: ((0 : Int) :: ((0 : Int) :: ([] : List Int)))))))))))))))))))))))))), ()))))) := (FnD.eq V sDigest_c sDigest_F (x1, ())).trans (by kernel_rfl)
theorem sDigest_q7 (x1 : ByteArray) (x2 : Int) (x3 : Int) (x4 : (List Int)) : sDigest_D7 (x1, (x2, (x3, (x4, ())))) = cnd (ilt x3 (17 : Int)) (cnd (inb x3 (25 : Int)) (bnd (sL03Word_d (x1, ((iadd .i64 x2 (imul .i64 (8 : Int) x3)), ()))) (fun r4 => (cnd (inb x3 (25 : Int)) (sDigest_D7 (x1, (x2, ((iadd .i64 x3 (1 : Int)), ((upd x4 x3 (ixor .u64 (rd (0 : Int) x4 x3) r4.1.1)), ()))))) none))) none) (bnd (sL03All_d (x4, ())) (fun r4 => (sDigest_D4 (x1, ((iadd .i64 x2 (136 : Int)), (r4.1.1, ())))))) := (FnD.eqC V sDigest_c sDigest_F 7 (x1, (x2, (x3, (x4, ()))))).trans (by kernel_rfl)
theorem sDigest_q4 (x1 : ByteArray) (x2 : Int) (x3 : (List Int)) : sDigest_D4 (x1, (x2, (x3, ()))) = cnd (ilt x2 (ssz x1)) (sDigest_D7 (x1, (x2, ((0 : Int), (x3, ()))))) (bnd (sL03Text_d (x3, ())) (fun r3 => (cnd (inb2 (0 : Int) (32 : Int) (ssz r3.1.1)) (some (((ssub r3.1.1 (0 : Int) (32 : Int)), ()), ())) none))) := (FnD.eqC V sDigest_c sDigest_F 4 (x1, (x2, (x3, ())))).trans (by kernel_rfl)
theorem sDigest_k : CallsOk Tryz.prog gls gvs 220 sDigest_g := FnD.ok (F := sDigest_F) (cs := sDigest_c) V_ok (kC sKeccakPad_k (kC sL03Word_k (kC sL03All_k (kC sL03Text_k kN)))) Tryz.func220 (by decide) (by kernel_rfl)
-- spec.LevelsOf
noncomputable def sLevelsOf_F : FnD := { f := 248, fn := Tryz.f248, ps := [pa (.int .i64)], rs := [rt (.int .i64)], cuts := [(4, [.val 0 (.int .i64) .sh, .val 3 (.int .i64) .sh])] }
noncomputable def sLevelsOf_c : List (Nat × Sig) := [(65, sL01In_g)]
noncomputable def sLevelsOf_d : Int × Unit → Option ((Int × Unit) × Unit) := sLevelsOf_F.d V sLevelsOf_c
noncomputable abbrev sLevelsOf_g : Sig := sLevelsOf_F.t.sig sLevelsOf_d
noncomputable def sLevelsOf_D4 : Int × Int × Unit → Option ((Int × Unit) × Unit) := sLevelsOf_F.D V sLevelsOf_c 4
theorem sLevelsOf_b (x1 : Int) : sLevelsOf_d (x1, ()) = bnd (sL01In_d (x1, ((0 : Int), ((32 : Int), ())))) (fun r1 => (cnd (bnot r1.1.1) (some (((-1 : Int), ()), ())) (sLevelsOf_D4 (x1, ((0 : Int), ()))))) := (FnD.eq V sLevelsOf_c sLevelsOf_F (x1, ())).trans (by kernel_rfl)
theorem sLevelsOf_q4 (x1 : Int) (x2 : Int) : sLevelsOf_D4 (x1, (x2, ())) = cnd (nn (iconv .u64 x2)) (cnd (ilt (ishl .i64 (1 : Int) (iconv .u64 x2)) x1) (sLevelsOf_D4 (x1, ((iadd .i64 x2 (1 : Int)), ()))) (some ((x2, ()), ()))) none := (FnD.eqC V sLevelsOf_c sLevelsOf_F 4 (x1, (x2, ()))).trans (by kernel_rfl)
theorem sLevelsOf_k : CallsOk Tryz.prog gls gvs 248 sLevelsOf_g := FnD.ok (F := sLevelsOf_F) (cs := sLevelsOf_c) V_ok (kC sL01In_k kN) Tryz.func248 (by decide) (by kernel_rfl)
-- spec.l10Hashes
noncomputable def sL10Hashes_F : FnD := { f := 208, fn := Tryz.f208, ps := [pa (.sl .str)], rs := [⟨(.sl .str), (.own 0 .sh), false⟩], cuts := [(3, [.val 0 (.sl .str) .sh, .val 3 (.sl .str) (.own 0 .sh), .val 4 (.int .i64) .sh]), (7, [.val 0 (.sl .str) .sh, .val 3 (.sl .str) (.own 0 .sh), .val 5 .str .sh])] }
noncomputable def sL10Hashes_c : List (Nat × Sig) := [(220, sDigest_g), (248, sLevelsOf_g)]
noncomputable def sL10Hashes_d : (List ByteArray) × Unit → Option (((List ByteArray) × Unit) × Unit) := sL10Hashes_F.d V sL10Hashes_c
noncomputable abbrev sL10Hashes_g : Sig := sL10Hashes_F.t.sig sL10Hashes_d
noncomputable def sL10Hashes_D3 : (List ByteArray) × (List ByteArray) × Int × Unit → Option (((List ByteArray) × Unit) × Unit) := sL10Hashes_F.D V sL10Hashes_c 3
noncomputable def sL10Hashes_D7 : (List ByteArray) × (List ByteArray) × ByteArray × Unit → Option (((List ByteArray) × Unit) × Unit) := sL10Hashes_F.D V sL10Hashes_c 7
theorem sL10Hashes_b (x1 : (List ByteArray)) : sL10Hashes_d (x1, ()) = sL10Hashes_D3 (x1, (([] : List ByteArray), ((0 : Int), ()))) := (FnD.eq V sL10Hashes_c sL10Hashes_F (x1, ())).trans (by kernel_rfl)
theorem sL10Hashes_q3 (x1 : (List ByteArray)) (x2 : (List ByteArray)) (x3 : Int) : sL10Hashes_D3 (x1, (x2, (x3, ()))) = cnd (ilt x3 (len x1)) (cnd (inb x3 (len x1)) (bnd (sDigest_d ((rd (bs []) x1 x3), ())) (fun r3 => (cnd (fits ((len x2) + (len (r3.1.1 :: ([] : List ByteArray)))) 1) (sL10Hashes_D3 (x1, ((app x2 (r3.1.1 :: ([] : List ByteArray))), ((iadd .i64 x3 (1 : Int)), ())))) none))) none) (bnd (sDigest_d ((bs []), ())) (fun r3 => (sL10Hashes_D7 (x1, (x2, (r3.1.1, ())))))) := (FnD.eqC V sL10Hashes_c sL10Hashes_F 3 (x1, (x2, (x3, ())))).trans (by kernel_rfl)
theorem sL10Hashes_q7 (x1 : (List ByteArray)) (x2 : (List ByteArray)) (x3 : ByteArray) : sL10Hashes_D7 (x1, (x2, (x3, ()))) = bnd (sLevelsOf_d ((len x1), ())) (fun r3 => (cnd (nn (iconv .u64 r3.1.1)) (cnd (ilt (len x2) (ishl .i64 (1 : Int) (iconv .u64 r3.1.1))) (cnd (fits ((len x2) + (len (x3 :: ([] : List ByteArray)))) 1) (sL10Hashes_D7 (x1, ((app x2 (x3 :: ([] : List ByteArray))), (x3, ())))) none) (some ((x2, ()), ()))) none)) := (FnD.eqC V sL10Hashes_c sL10Hashes_F 7 (x1, (x2, (x3, ())))).trans (by kernel_rfl)
theorem sL10Hashes_k : CallsOk Tryz.prog gls gvs 208 sL10Hashes_g := FnD.ok (F := sL10Hashes_F) (cs := sL10Hashes_c) V_ok (kC sDigest_k (kC sLevelsOf_k kN)) Tryz.func208 (by decide) (by kernel_rfl)
-- spec.DigestPair
noncomputable def sDigestPair_F : FnD := { f := 221, fn := Tryz.f221, ps := [pa .str, pa .str], rs := [rt .str] }
noncomputable def sDigestPair_c : List (Nat × Sig) := [(220, sDigest_g)]
noncomputable def sDigestPair_d : ByteArray × ByteArray × Unit → Option ((ByteArray × Unit) × Unit) := sDigestPair_F.d V sDigestPair_c
noncomputable abbrev sDigestPair_g : Sig := sDigestPair_F.t.sig sDigestPair_d
theorem sDigestPair_b (x1 : ByteArray) (x2 : ByteArray) : sDigestPair_d (x1, (x2, ())) = cnd (fits ((ssz x1) + (ssz x2)) 1) (bnd (sDigest_d ((scat x1 x2), ())) (fun r2 => (some ((r2.1.1, ()), ())))) none := (FnD.eq V sDigestPair_c sDigestPair_F (x1, (x2, ()))).trans (by kernel_rfl)
theorem sDigestPair_k : CallsOk Tryz.prog gls gvs 221 sDigestPair_g := FnD.ok (F := sDigestPair_F) (cs := sDigestPair_c) V_ok (kC sDigest_k kN) Tryz.func221 (by decide) (by kernel_rfl)
-- spec.l10Up
noncomputable def sL10Up_F : FnD := { f := 209, fn := Tryz.f209, ps := [pa (.sl .str)], rs := [⟨(.sl .str), (.own 0 .sh), false⟩], cuts := [(3, [.val 0 (.sl .str) .sh, .val 3 (.sl .str) (.own 0 .sh), .val 4 (.int .i64) .sh])] }
noncomputable def sL10Up_c : List (Nat × Sig) := [(221, sDigestPair_g)]
noncomputable def sL10Up_d : (List ByteArray) × Unit → Option (((List ByteArray) × Unit) × Unit) := sL10Up_F.d V sL10Up_c
noncomputable abbrev sL10Up_g : Sig := sL10Up_F.t.sig sL10Up_d
noncomputable def sL10Up_D3 : (List ByteArray) × (List ByteArray) × Int × Unit → Option (((List ByteArray) × Unit) × Unit) := sL10Up_F.D V sL10Up_c 3
theorem sL10Up_b (x1 : (List ByteArray)) : sL10Up_d (x1, ()) = sL10Up_D3 (x1, (([] : List ByteArray), ((0 : Int), ()))) := (FnD.eq V sL10Up_c sL10Up_F (x1, ())).trans (by kernel_rfl)
theorem sL10Up_q3 (x1 : (List ByteArray)) (x2 : (List ByteArray)) (x3 : Int) : sL10Up_D3 (x1, (x2, (x3, ()))) = cnd (ilt (iadd .i64 x3 (1 : Int)) (len x1)) (cnd (inb x3 (len x1)) (cnd (inb (iadd .i64 x3 (1 : Int)) (len x1)) (bnd (sDigestPair_d ((rd (bs []) x1 x3), ((rd (bs []) x1 (iadd .i64 x3 (1 : Int))), ()))) (fun r3 => (cnd (fits ((len x2) + (len (r3.1.1 :: ([] : List ByteArray)))) 1) (sL10Up_D3 (x1, ((app x2 (r3.1.1 :: ([] : List ByteArray))), ((iadd .i64 x3 (2 : Int)), ())))) none))) none) none) (some ((x2, ()), ())) := (FnD.eqC V sL10Up_c sL10Up_F 3 (x1, (x2, (x3, ())))).trans (by kernel_rfl)
theorem sL10Up_k : CallsOk Tryz.prog gls gvs 209 sL10Up_g := FnD.ok (F := sL10Up_F) (cs := sL10Up_c) V_ok (kC sDigestPair_k kN) Tryz.func209 (by decide) (by kernel_rfl)
-- spec.RootOf
noncomputable def sRootOf_F : FnD := { f := 149, fn := Tryz.f149, ps := [pa (.sl .str)], rs := [rt .str], cuts := [(4, [.val 3 (.sl .str) (.own 0 .sh)])] }
noncomputable def sRootOf_c : List (Nat × Sig) := [(208, sL10Hashes_g), (209, sL10Up_g)]
noncomputable def sRootOf_d : (List ByteArray) × Unit → Option ((ByteArray × Unit) × Unit) := sRootOf_F.d V sRootOf_c
noncomputable abbrev sRootOf_g : Sig := sRootOf_F.t.sig sRootOf_d
noncomputable def sRootOf_D4 : (List ByteArray) × Unit → Option ((ByteArray × Unit) × Unit) := sRootOf_F.D V sRootOf_c 4
theorem sRootOf_b (x1 : (List ByteArray)) : sRootOf_d (x1, ()) = cnd (igt (len x1) (32 : Int)) (some (((bs []), ()), ())) (bnd (sL10Hashes_d (x1, ())) (fun r1 => (sRootOf_D4 (r1.1.1, ())))) := (FnD.eq V sRootOf_c sRootOf_F (x1, ())).trans (by kernel_rfl)
theorem sRootOf_q4 (x1 : (List ByteArray)) : sRootOf_D4 (x1, ()) = cnd (igt (len x1) (1 : Int)) (bnd (sL10Up_d (x1, ())) (fun r1 => (sRootOf_D4 (r1.1.1, ())))) (cnd (inb (0 : Int) (len x1)) (some (((rd (bs []) x1 (0 : Int)), ()), ())) none) := (FnD.eqC V sRootOf_c sRootOf_F 4 (x1, ())).trans (by kernel_rfl)
theorem sRootOf_k : CallsOk Tryz.prog gls gvs 149 sRootOf_g := FnD.ok (F := sRootOf_F) (cs := sRootOf_c) V_ok (kC sL10Hashes_k (kC sL10Up_k kN)) Tryz.func149 (by decide) (by kernel_rfl)
-- spec.HeadRoot
noncomputable def sHeadRoot_F : FnD := { f := 93, fn := Tryz.f93, ps := [pa THead], rs := [rt .str] }
noncomputable def sHeadRoot_c : List (Nat × Sig) := [(132, sHeadOk_g), (150, sL01Var_g), (149, sRootOf_g)]
noncomputable def sHeadRoot_d : tHead × Unit → Option ((ByteArray × Unit) × Unit) := sHeadRoot_F.d V sHeadRoot_c
noncomputable abbrev sHeadRoot_g : Sig := sHeadRoot_F.t.sig sHeadRoot_d
theorem sHeadRoot_b (x1 : tHead) : sHeadRoot_d (x1, ()) = bnd (sHeadOk_d (x1, ())) (fun r1 => (cnd (bnot r1.1.1) (some (((bs []), ()), ())) (bnd (sL01Var_d (x1.1, ())) (fun r2 => (bnd (sRootOf_d ((r2.1.1 :: (x1.2.1 :: (x1.2.2.1 :: (x1.2.2.2.1 :: ([] : List ByteArray))))), ())) (fun r3 => (some ((r3.1.1, ()), ())))))))) := (FnD.eq V sHeadRoot_c sHeadRoot_F (x1, ())).trans (by kernel_rfl)
theorem sHeadRoot_k : CallsOk Tryz.prog gls gvs 93 sHeadRoot_g := FnD.ok (F := sHeadRoot_F) (cs := sHeadRoot_c) V_ok (kC sHeadOk_k (kC sL01Var_k (kC sRootOf_k kN))) Tryz.func93 (by decide) (by kernel_rfl)
-- spec.l01Figure
noncomputable def sL01Figure_F : FnD := { f := 94, fn := Tryz.f94, ps := [pa (.int .i64)], rs := [rt (.int .u8)] }
noncomputable def sL01Figure_c : List (Nat × Sig) := []
noncomputable def sL01Figure_d : Int × Unit → Option ((Int × Unit) × Unit) := sL01Figure_F.d V sL01Figure_c
noncomputable abbrev sL01Figure_g : Sig := sL01Figure_F.t.sig sL01Figure_d
theorem sL01Figure_b (x1 : Int) : sL01Figure_d (x1, ()) = cnd (ilt x1 (10 : Int)) (some (((iconv .u8 (iadd .i64 (48 : Int) x1)), ()), ())) (some (((iconv .u8 (isub .i64 (iadd .i64 (97 : Int) x1) (10 : Int))), ()), ())) := (FnD.eq V sL01Figure_c sL01Figure_F (x1, ())).trans (by kernel_rfl)
theorem sL01Figure_k : CallsOk Tryz.prog gls gvs 94 sL01Figure_g := FnD.ok (F := sL01Figure_F) (cs := sL01Figure_c) V_ok kN Tryz.func94 (by decide) (by kernel_rfl)
-- spec.Hex
noncomputable def sHex_F : FnD := { f := 92, fn := Tryz.f92, ps := [pa .str], rs := [rt .str, rt .bool], cuts := [(5, [.val 0 .str .sh, .val 4 (.sl (.int .u8)) (.own 0 .sh), .val 5 (.int .i64) .sh])] }
noncomputable def sHex_c : List (Nat × Sig) := [(94, sL01Figure_g)]
noncomputable def sHex_d : ByteArray × Unit → Option ((ByteArray × Bool × Unit) × Unit) := sHex_F.d V sHex_c
noncomputable abbrev sHex_g : Sig := sHex_F.t.sig sHex_d
noncomputable def sHex_D5 : ByteArray × (List Int) × Int × Unit → Option ((ByteArray × Bool × Unit) × Unit) := sHex_F.D V sHex_c 5
theorem sHex_b (x1 : ByteArray) : sHex_d (x1, ()) = cnd (igt (ssz x1) (20000 : Int)) (some (zL21Cur, ())) (sHex_D5 (x1, (([] : List Int), ((0 : Int), ())))) := (FnD.eq V sHex_c sHex_F (x1, ())).trans (by kernel_rfl)
theorem sHex_q5 (x1 : ByteArray) (x2 : (List Int)) (x3 : Int) : sHex_D5 (x1, (x2, (x3, ()))) = cnd (ilt x3 (ssz x1)) (cnd (inb x3 (ssz x1)) (cnd (nz (16 : Int)) (bnd (sL01Figure_d ((iquo .i64 (iconv .i64 (sat x1 x3)) (16 : Int)), ())) (fun r3 => (cnd (inb x3 (ssz x1)) (cnd (nz (16 : Int)) (bnd (sL01Figure_d ((irem (iconv .i64 (sat x1 x3)) (16 : Int)), ())) (fun r4 => (cnd (fits ((len x2) + (len (r3.1.1 :: (r4.1.1 :: ([] : List Int))))) 1) (sHex_D5 (x1, ((app x2 (r3.1.1 :: (r4.1.1 :: ([] : List Int)))), ((iadd .i64 x3 (1 : Int)), ())))) none))) none) none))) none) none) (some (((sof x2), (true, ())), ())) := (FnD.eqC V sHex_c sHex_F 5 (x1, (x2, (x3, ())))).trans (by kernel_rfl)
theorem sHex_k : CallsOk Tryz.prog gls gvs 92 sHex_g := FnD.ok (F := sHex_F) (cs := sHex_c) V_ok (kC sL01Figure_k kN) Tryz.func92 (by decide) (by kernel_rfl)
-- spec.Decimal
noncomputable def sDecimal_F : FnD := { f := 37, fn := Tryz.f37, ps := [pa (.int .i64)], rs := [rt .str], joins := [9], cuts := [(9, [.val 0 (.int .i64) .sh, .val 3 .bool .sh, .val 4 .str .sh, .val 5 (.int .i64) .sh]), (5, [.val 0 (.int .i64) .sh, .val 3 .bool .sh, .val 4 .str .sh])] }
noncomputable def sDecimal_c : List (Nat × Sig) := [(94, sL01Figure_g)]
noncomputable def sDecimal_d : Int × Unit → Option ((ByteArray × Unit) × Unit) := sDecimal_F.d V sDecimal_c
noncomputable abbrev sDecimal_g : Sig := sDecimal_F.t.sig sDecimal_d
noncomputable def sDecimal_D9 : Int × Bool × ByteArray × Int × Unit → Option ((ByteArray × Unit) × Unit) := sDecimal_F.D V sDecimal_c 9
noncomputable def sDecimal_D5 : Int × Bool × ByteArray × Unit → Option ((ByteArray × Unit) × Unit) := sDecimal_F.D V sDecimal_c 5
theorem sDecimal_b (x1 : Int) : sDecimal_d (x1, ()) = cnd (ieq x1 (0 : Int)) (some (((bs [48]), ()), ())) (sDecimal_D5 (x1, ((ilt x1 (0 : Int)), ((bs []), ())))) := (FnD.eq V sDecimal_c sDecimal_F (x1, ())).trans (by kernel_rfl)
theorem sDecimal_q9 (x1 : Int) (x2 : Bool) (x3 : ByteArray) (x4 : Int) : sDecimal_D9 (x1, (x2, (x3, (x4, ())))) = bnd (sL01Figure_d (x4, ())) (fun r4 => (cnd (fits ((ssz (sof (r4.1.1 :: ([] : List Int)))) + (ssz x3)) 1) (cnd (nz (10 : Int)) (sDecimal_D5 ((iquo .i64 x1 (10 : Int)), (x2, ((scat (sof (r4.1.1 :: ([] : List Int))) x3), ())))) none) none)) := (FnD.eqC V sDecimal_c sDecimal_F 9 (x1, (x2, (x3, (x4, ()))))).trans (by kernel_rfl)
theorem sDecimal_q5 (x1 : Int) (x2 : Bool) (x3 : ByteArray) : sDecimal_D5 (x1, (x2, (x3, ()))) = cnd (ine x1 (0 : Int)) (cnd (nz (10 : Int)) (cnd (ilt (irem x1 (10 : Int)) (0 : Int)) (sDecimal_D9 (x1, (x2, (x3, ((ineg .i64 (irem x1 (10 : Int))), ()))))) (sDecimal_D9 (x1, (x2, (x3, ((irem x1 (10 : Int)), ())))))) none) (cnd x2 (cnd (fits ((ssz (bs [45])) + (ssz x3)) 1) (some (((scat (bs [45]) x3), ()), ())) none) (some ((x3, ()), ()))) := (FnD.eqC V sDecimal_c sDecimal_F 5 (x1, (x2, (x3, ())))).trans (by kernel_rfl)
theorem sDecimal_k : CallsOk Tryz.prog gls gvs 37 sDecimal_g := FnD.ok (F := sDecimal_F) (cs := sDecimal_c) V_ok (kC sL01Figure_k kN) Tryz.func37 (by decide) (by kernel_rfl)
-- spec.l28Num
noncomputable def sL28Num_F : FnD := { f := 38, fn := Tryz.f38, ps := [pa (.int .i64)], rs := [rt .str] }
noncomputable def sL28Num_c : List (Nat × Sig) := [(37, sDecimal_g)]
noncomputable def sL28Num_d : Int × Unit → Option ((ByteArray × Unit) × Unit) := sL28Num_F.d V sL28Num_c
noncomputable abbrev sL28Num_g : Sig := sL28Num_F.t.sig sL28Num_d
theorem sL28Num_b (x1 : Int) : sL28Num_d (x1, ()) = cnd (ilt x1 (0 : Int)) (some (((bs [48]), ()), ())) (bnd (sDecimal_d (x1, ())) (fun r1 => (some ((r1.1.1, ()), ())))) := (FnD.eq V sL28Num_c sL28Num_F (x1, ())).trans (by kernel_rfl)
theorem sL28Num_k : CallsOk Tryz.prog gls gvs 38 sL28Num_g := FnD.ok (F := sL28Num_F) (cs := sL28Num_c) V_ok (kC sDecimal_k kN) Tryz.func38 (by decide) (by kernel_rfl)
-- spec.ShowClient
noncomputable def sShowClient_F : FnD := { f := 36, fn := Tryz.f36, ps := [pa TClient], rs := [rt .str], joins := [4, 7], cuts := [(4, [.val 3 .str .sh, .box 1 TClient .sh, .ptr 1 1 0]), (7, [.val 3 .str .sh, .val 5 .str .sh, .box 1 TClient .sh, .ptr 1 1 0])] }
noncomputable def sShowClient_c : List (Nat × Sig) := [(93, sHeadRoot_g), (92, sHex_g), (38, sL28Num_g)]
noncomputable def sShowClient_d : tClient × Unit → Option ((ByteArray × Unit) × Unit) := sShowClient_F.d V sShowClient_c
noncomputable abbrev sShowClient_g : Sig := sShowClient_F.t.sig sShowClient_d
noncomputable def sShowClient_D4 : ByteArray × tClient × Unit → Option ((ByteArray × Unit) × Unit) := sShowClient_F.D V sShowClient_c 4
noncomputable def sShowClient_D7 : ByteArray × ByteArray × tClient × Unit → Option ((ByteArray × Unit) × Unit) := sShowClient_F.D V sShowClient_c 7
theorem sShowClient_b (x1 : tClient) : sShowClient_d (x1, ()) = bnd (sHeadRoot_d (x1.1, ())) (fun r1 => (bnd (sHex_d (r1.1.1, ())) (fun r2 => (cnd (igt (ssz r2.1.1) (8 : Int)) (cnd (inb2 (0 : Int) (8 : Int) (ssz r2.1.1)) (sShowClient_D4 ((ssub r2.1.1 (0 : Int) (8 : Int)), (x1, ()))) none) (sShowClient_D4 (r2.1.1, (x1, ()))))))) := (FnD.eq V sShowClient_c sShowClient_F (x1, ())).trans (by kernel_rfl)
theorem sShowClient_q4 (x1 : ByteArray) (x2 : tClient) : sShowClient_D4 (x1, (x2, ())) = cnd x2.2.2.2.1 (sShowClient_D7 (x1, ((bs [110, 101, 120, 116]), (x2, ())))) (sShowClient_D7 (x1, ((bs [45]), (x2, ())))) := (FnD.eqC V sShowClient_c sShowClient_F 4 (x1, (x2, ()))).trans (by kernel_rfl)
theorem sShowClient_q7 (x1 : ByteArray) (x2 : ByteArray) (x3 : tClient) : sShowClient_D7 (x1, (x2, (x3, ()))) = bnd (sL28Num_d (x3.1.1, ())) (fun r3 => (cnd (fits ((ssz (bs [102, 105, 110, 97, 108, 32])) + (ssz r3.1.1)) 1) (cnd (fits ((ssz (scat (bs [102, 105, 110, 97, 108, 32]) r3.1.1)) + (ssz (bs [32]))) 1) (cnd (fits ((ssz (scat (scat (bs [102, 105, 110, 97, 108, 32]) r3.1.1) (bs [32]))) + (ssz x1)) 1) (cnd (fits ((ssz (scat (scat (scat (bs [102, 105, 110, 97, 108, 32]) r3.1.1) (bs [32])) x1)) + (ssz (bs [32]))) 1) (cnd (fits ((ssz (scat (scat (scat (scat (bs [102, 105, 110, 97, 108, 32]) r3.1.1) (bs [32])) x1) (bs [32]))) + (ssz x2)) 1) (cnd (fits ((ssz (scat (scat (scat (scat (scat (bs [102, 105, 110, 97, 108, 32]) r3.1.1) (bs [32])) x1) (bs [32])) x2)) + (ssz (bs [10]))) 1) (some (((scat (scat (scat (scat (scat (scat (bs [102, 105, 110, 97, 108, 32]) r3.1.1) (bs [32])) x1) (bs [32])) x2) (bs [10])), ()), ())) none) none) none) none) none) none)) := (FnD.eqC V sShowClient_c sShowClient_F 7 (x1, (x2, (x3, ())))).trans (by kernel_rfl)
theorem sShowClient_k : CallsOk Tryz.prog gls gvs 36 sShowClient_g := FnD.ok (F := sShowClient_F) (cs := sShowClient_c) V_ok (kC sHeadRoot_k (kC sHex_k (kC sL28Num_k kN))) Tryz.func36 (by decide) (by kernel_rfl)
-- spec.ShowBridge
noncomputable def sShowBridge_F : FnD := { f := 10, fn := Tryz.f10, ps := [pa TBridge], rs := [rt .str] }
noncomputable def sShowBridge_c : List (Nat × Sig) := [(35, sReadJournal_g), (36, sShowClient_g), (37, sDecimal_g), (38, sL28Num_g)]
noncomputable def sShowBridge_d : tBridge × Unit → Option ((ByteArray × Unit) × Unit) := sShowBridge_F.d V sShowBridge_c
noncomputable abbrev sShowBridge_g : Sig := sShowBridge_F.t.sig sShowBridge_d
theorem sShowBridge_b (x1 : tBridge) : sShowBridge_d (x1, ()) = bnd (sReadJournal_d (x1.2.2.1, ())) (fun r1 => (bnd (sShowClient_d (x1.2.1, ())) (fun r2 => (cnd (fits ((ssz r2.1.1) + (ssz (bs [113, 117, 101, 117, 101, 32]))) 1) (bnd (sDecimal_d ((len x1.2.2.2.2.1), ())) (fun r3 => (cnd (fits ((ssz (scat r2.1.1 (bs [113, 117, 101, 117, 101, 32]))) + (ssz r3.1.1)) 1) (cnd (fits ((ssz (scat (scat r2.1.1 (bs [113, 117, 101, 117, 101, 32])) r3.1.1)) + (ssz (bs [32, 106, 111, 117, 114, 110, 97, 108, 32]))) 1) (bnd (sDecimal_d ((len r1.1.1), ())) (fun r4 => (cnd (fits ((ssz (scat (scat (scat r2.1.1 (bs [113, 117, 101, 117, 101, 32])) r3.1.1) (bs [32, 106, 111, 117, 114, 110, 97, 108, 32]))) + (ssz r4.1.1)) 1) (cnd (fits ((ssz (scat (scat (scat (scat r2.1.1 (bs [113, 117, 101, 117, 101, 32])) r3.1.1) (bs [32, 106, 111, 117, 114, 110, 97, 108, 32])) r4.1.1)) + (ssz (bs [32, 110, 111, 119, 32]))) 1) (bnd (sL28Num_d (x1.2.2.2.2.2.1, ())) (fun r5 => (cnd (fits ((ssz (scat (scat (scat (scat (scat r2.1.1 (bs [113, 117, 101, 117, 101, 32])) r3.1.1) (bs [32, 106, 111, 117, 114, 110, 97, 108, 32])) r4.1.1) (bs [32, 110, 111, 119, 32]))) + (ssz r5.1.1)) 1) (cnd (fits ((ssz (scat (scat (scat (scat (scat (scat r2.1.1 (bs [113, 117, 101, 117, 101, 32])) r3.1.1) (bs [32, 106, 111, 117, 114, 110, 97, 108, 32])) r4.1.1) (bs [32, 110, 111, 119, 32])) r5.1.1)) + (ssz (bs [10]))) 1) (some (((scat (scat (scat (scat (scat (scat (scat r2.1.1 (bs [113, 117, 101, 117, 101, 32])) r3.1.1) (bs [32, 106, 111, 117, 114, 110, 97, 108, 32])) r4.1.1) (bs [32, 110, 111, 119, 32])) r5.1.1) (bs [10])), ()), ())) none) none))) none) none))) none) none))) none)))) := (FnD.eq V sShowBridge_c sShowBridge_F (x1, ())).trans (by kernel_rfl)
theorem sShowBridge_k : CallsOk Tryz.prog gls gvs 10 sShowBridge_g := FnD.ok (F := sShowBridge_F) (cs := sShowBridge_c) V_ok (kC sReadJournal_k (kC sShowClient_k (kC sDecimal_k (kC sL28Num_k kN)))) Tryz.func10 (by decide) (by kernel_rfl)
-- impl.ReadVar
noncomputable def iReadVar_F : FnD := { f := 181, fn := Tryz.f181, ps := [pa .str, pa (.int .i64)], rs := [rt (.int .i64), rt (.int .i64), rt .bool], joins := [13], cuts := [(13, [.val 1 (.int .i64) .sh, .val 7 (.int .i64) .sh, .val 9 (.int .i64) .sh]), (5, [.val 0 .str .sh, .val 1 (.int .i64) .sh, .val 7 (.int .i64) .sh, .val 8 (.int .i64) .sh, .val 9 (.int .i64) .sh])] }
noncomputable def iReadVar_c : List (Nat × Sig) := []
noncomputable def iReadVar_d : ByteArray × Int × Unit → Option ((Int × Int × Bool × Unit) × Unit) := iReadVar_F.d V iReadVar_c
noncomputable abbrev iReadVar_g : Sig := iReadVar_F.t.sig iReadVar_d
noncomputable def iReadVar_D13 : Int × Int × Int × Unit → Option ((Int × Int × Bool × Unit) × Unit) := iReadVar_F.D V iReadVar_c 13
noncomputable def iReadVar_D5 : ByteArray × Int × Int × Int × Int × Unit → Option ((Int × Int × Bool × Unit) × Unit) := iReadVar_F.D V iReadVar_c 5
theorem iReadVar_b (x1 : ByteArray) (x2 : Int) : iReadVar_d (x1, (x2, ())) = cnd (ilt x2 (0 : Int)) (some (zPoint, ())) (cnd (igt x2 (ssz x1)) (some (zPoint, ())) (iReadVar_D5 (x1, (x2, ((0 : Int), ((1 : Int), ((0 : Int), ()))))))) := (FnD.eq V iReadVar_c iReadVar_F (x1, (x2, ()))).trans (by kernel_rfl)
theorem iReadVar_q13 (x1 : Int) (x2 : Int) (x3 : Int) : iReadVar_D13 (x1, (x2, (x3, ()))) = some ((x2, ((iadd .i64 (iadd .i64 x1 x3) (1 : Int)), (true, ()))), ()) := (FnD.eqC V iReadVar_c iReadVar_F 13 (x1, (x2, (x3, ())))).trans (by kernel_rfl)
theorem iReadVar_q5 (x1 : ByteArray) (x2 : Int) (x3 : Int) (x4 : Int) (x5 : Int) : iReadVar_D5 (x1, (x2, (x3, (x4, (x5, ()))))) = cnd (ilt x5 (5 : Int)) (cnd (ilt (iadd .i64 x2 x5) (ssz x1)) (cnd (inb (iadd .i64 x2 x5) (ssz x1)) (cnd (nz (128 : Int)) (cnd (ige (iconv .i64 (sat x1 (iadd .i64 x2 x5))) (128 : Int)) (iReadVar_D5 (x1, (x2, ((iadd .i64 x3 (imul .i64 (irem (iconv .i64 (sat x1 (iadd .i64 x2 x5))) (128 : Int)) x4)), ((imul .i64 x4 (128 : Int)), ((iadd .i64 x5 (1 : Int)), ())))))) (cnd (ieq (iconv .i64 (sat x1 (iadd .i64 x2 x5))) (0 : Int)) (cnd (igt x5 (0 : Int)) (some (zPoint, ())) (cnd (igt (iadd .i64 x3 (imul .i64 (irem (iconv .i64 (sat x1 (iadd .i64 x2 x5))) (128 : Int)) x4)) (1000000000 : Int)) (some (zPoint, ())) (iReadVar_D13 (x2, ((iadd .i64 x3 (imul .i64 (irem (iconv .i64 (sat x1 (iadd .i64 x2 x5))) (128 : Int)) x4)), (x5, ())))))) (cnd (igt (iadd .i64 x3 (imul .i64 (irem (iconv .i64 (sat x1 (iadd .i64 x2 x5))) (128 : Int)) x4)) (1000000000 : Int)) (some (zPoint, ())) (iReadVar_D13 (x2, ((iadd .i64 x3 (imul .i64 (irem (iconv .i64 (sat x1 (iadd .i64 x2 x5))) (128 : Int)) x4)), (x5, ()))))))) none) none) (some (zPoint, ()))) (some (zPoint, ())) := (FnD.eqC V iReadVar_c iReadVar_F 5 (x1, (x2, (x3, (x4, (x5, ())))))).trans (by kernel_rfl)
theorem iReadVar_k : CallsOk Tryz.prog gls gvs 181 iReadVar_g := FnD.ok (F := iReadVar_F) (cs := iReadVar_c) V_ok kN Tryz.func181 (by decide) (by kernel_rfl)
-- impl.ReadShort
noncomputable def iReadShort_F : FnD := { f := 151, fn := Tryz.f151, ps := [pa .str, pa (.int .i64)], rs := [rt .str, rt (.int .i64), rt .bool] }
noncomputable def iReadShort_c : List (Nat × Sig) := [(181, iReadVar_g)]
noncomputable def iReadShort_d : ByteArray × Int × Unit → Option ((ByteArray × Int × Bool × Unit) × Unit) := iReadShort_F.d V iReadShort_c
noncomputable abbrev iReadShort_g : Sig := iReadShort_F.t.sig iReadShort_d
theorem iReadShort_b (x1 : ByteArray) (x2 : Int) : iReadShort_d (x1, (x2, ())) = bnd (iReadVar_d (x1, (x2, ()))) (fun r2 => (cnd (bnot r2.1.2.2.1) (some (zScanner, ())) (cnd (igt r2.1.1 (20000 : Int)) (some (zScanner, ())) (cnd (igt r2.1.1 (isub .i64 (ssz x1) r2.1.2.1)) (some (zScanner, ())) (cnd (inb2 r2.1.2.1 (iadd .i64 r2.1.2.1 r2.1.1) (ssz x1)) (some (((ssub x1 r2.1.2.1 (iadd .i64 r2.1.2.1 r2.1.1)), ((iadd .i64 r2.1.2.1 r2.1.1), (true, ()))), ())) none))))) := (FnD.eq V iReadShort_c iReadShort_F (x1, (x2, ()))).trans (by kernel_rfl)
theorem iReadShort_k : CallsOk Tryz.prog gls gvs 151 iReadShort_g := FnD.ok (F := iReadShort_F) (cs := iReadShort_c) V_ok (kC iReadVar_k kN) Tryz.func151 (by decide) (by kernel_rfl)
-- impl.SumMore
noncomputable def iSumMore_F : FnD := { f := 264, fn := Tryz.f264, ps := [pa (.int .u32), pa .str], rs := [rt (.int .u32)], cuts := [(6, [.val 0 (.int .u32) .sh, .val 1 .str .sh, .val 5 (.int .i64) .sh, .val 19 (.int .i64) .sh]), (2, [.val 0 (.int .u32) .sh, .val 1 .str .sh, .val 5 (.int .i64) .sh])] }
noncomputable def iSumMore_c : List (Nat × Sig) := []
noncomputable def iSumMore_d : Int × ByteArray × Unit → Option ((Int × Unit) × Unit) := iSumMore_F.d V iSumMore_c
noncomputable abbrev iSumMore_g : Sig := iSumMore_F.t.sig iSumMore_d
noncomputable def iSumMore_D6 : Int × ByteArray × Int × Int × Unit → Option ((Int × Unit) × Unit) := iSumMore_F.D V iSumMore_c 6
noncomputable def iSumMore_D2 : Int × ByteArray × Int × Unit → Option ((Int × Unit) × Unit) := iSumMore_F.D V iSumMore_c 2
theorem iSumMore_b (x1 : Int) (x2 : ByteArray) : iSumMore_d (x1, (x2, ())) = iSumMore_D2 (x1, (x2, ((0 : Int), ()))) := (FnD.eq V iSumMore_c iSumMore_F (x1, (x2, ()))).trans (by kernel_rfl)
theorem iSumMore_q6 (x1 : Int) (x2 : ByteArray) (x3 : Int) (x4 : Int) : iSumMore_D6 (x1, (x2, (x3, (x4, ())))) = cnd (ilt x4 (8 : Int)) (cnd (nn (1 : Int)) (cnd (ieq (iand .u32 x1 (1 : Int)) (1 : Int)) (iSumMore_D6 ((ixor .u32 (ishr .u32 x1 (1 : Int)) (3558460437 : Int)), (x2, (x3, ((iadd .i64 x4 (1 : Int)), ()))))) (iSumMore_D6 ((ishr .u32 x1 (1 : Int)), (x2, (x3, ((iadd .i64 x4 (1 : Int)), ())))))) none) (iSumMore_D2 (x1, (x2, ((iadd .i64 x3 (1 : Int)), ())))) := (FnD.eqC V iSumMore_c iSumMore_F 6 (x1, (x2, (x3, (x4, ()))))).trans (by kernel_rfl)
theorem iSumMore_q2 (x1 : Int) (x2 : ByteArray) (x3 : Int) : iSumMore_D2 (x1, (x2, (x3, ()))) = cnd (ilt x3 (ssz x2)) (cnd (inb x3 (ssz x2)) (iSumMore_D6 ((ixor .u32 x1 (iconv .u32 (sat x2 x3))), (x2, (x3, ((0 : Int), ()))))) none) (some ((x1, ()), ())) := (FnD.eqC V iSumMore_c iSumMore_F 2 (x1, (x2, (x3, ())))).trans (by kernel_rfl)
theorem iSumMore_k : CallsOk Tryz.prog gls gvs 264 iSumMore_g := FnD.ok (F := iSumMore_F) (cs := iSumMore_c) V_ok kN Tryz.func264 (by decide) (by kernel_rfl)
-- impl.SumOf
noncomputable def iSumOf_F : FnD := { f := 227, fn := Tryz.f227, ps := [pa .str], rs := [rt (.int .u32)] }
noncomputable def iSumOf_c : List (Nat × Sig) := [(264, iSumMore_g)]
noncomputable def iSumOf_d : ByteArray × Unit → Option ((Int × Unit) × Unit) := iSumOf_F.d V iSumOf_c
noncomputable abbrev iSumOf_g : Sig := iSumOf_F.t.sig iSumOf_d
theorem iSumOf_b (x1 : ByteArray) : iSumOf_d (x1, ()) = bnd (iSumMore_d ((4294967295 : Int), (x1, ()))) (fun r1 => (some ((r1.1.1, ()), ()))) := (FnD.eq V iSumOf_c iSumOf_F (x1, ())).trans (by kernel_rfl)
theorem iSumOf_k : CallsOk Tryz.prog gls gvs 227 iSumOf_g := FnD.ok (F := iSumOf_F) (cs := iSumOf_c) V_ok (kC iSumMore_k kN) Tryz.func227 (by decide) (by kernel_rfl)
-- impl.sumText
noncomputable def iSumText_F : FnD := { f := 180, fn := Tryz.f180, ps := [pa .str], rs := [rt .str] }
noncomputable def iSumText_c : List (Nat × Sig) := [(227, iSumOf_g)]
noncomputable def iSumText_d : ByteArray × Unit → Option ((ByteArray × Unit) × Unit) := iSumText_F.d V iSumText_c
noncomputable abbrev iSumText_g : Sig := iSumText_F.t.sig iSumText_d
theorem iSumText_b (x1 : ByteArray) : iSumText_d (x1, ()) = bnd (iSumOf_d (x1, ())) (fun r1 => (cnd (nn (24 : Int)) (cnd (nn (16 : Int)) (cnd (nn (8 : Int)) (some (((sof ((iconv .u8 (ishr .u32 r1.1.1 (24 : Int))) :: ((iconv .u8 (ishr .u32 r1.1.1 (16 : Int))) :: ((iconv .u8 (ishr .u32 r1.1.1 (8 : Int))) :: ((iconv .u8 r1.1.1) :: ([] : List Int)))))), ()), ())) none) none) none)) := (FnD.eq V iSumText_c iSumText_F (x1, ())).trans (by kernel_rfl)
theorem iSumText_k : CallsOk Tryz.prog gls gvs 180 iSumText_g := FnD.ok (F := iSumText_F) (cs := iSumText_c) V_ok (kC iSumOf_k kN) Tryz.func180 (by decide) (by kernel_rfl)
-- impl.Unsealed
noncomputable def iUnsealed_F : FnD := { f := 116, fn := Tryz.f116, ps := [pa .str], rs := [rt .str, rt .bool] }
noncomputable def iUnsealed_c : List (Nat × Sig) := [(180, iSumText_g)]
noncomputable def iUnsealed_d : ByteArray × Unit → Option ((ByteArray × Bool × Unit) × Unit) := iUnsealed_F.d V iUnsealed_c
noncomputable abbrev iUnsealed_g : Sig := iUnsealed_F.t.sig iUnsealed_d
theorem iUnsealed_b (x1 : ByteArray) : iUnsealed_d (x1, ()) = cnd (ilt (isub .i64 (ssz x1) (4 : Int)) (0 : Int)) (some (zL21Cur, ())) (cnd (igt (isub .i64 (ssz x1) (4 : Int)) (20000 : Int)) (some (zL21Cur, ())) (cnd (inb2 (0 : Int) (isub .i64 (ssz x1) (4 : Int)) (ssz x1)) (bnd (iSumText_d ((ssub x1 (0 : Int) (isub .i64 (ssz x1) (4 : Int))), ())) (fun r1 => (cnd (inb2 (isub .i64 (ssz x1) (4 : Int)) (ssz x1) (ssz x1)) (cnd (sne r1.1.1 (ssub x1 (isub .i64 (ssz x1) (4 : Int)) (ssz x1))) (some (zL21Cur, ())) (cnd (inb2 (0 : Int) (isub .i64 (ssz x1) (4 : Int)) (ssz x1)) (some (((ssub x1 (0 : Int) (isub .i64 (ssz x1) (4 : Int))), (true, ())), ())) none)) none))) none)) := (FnD.eq V iUnsealed_c iUnsealed_F (x1, ())).trans (by kernel_rfl)
theorem iUnsealed_k : CallsOk Tryz.prog gls gvs 116 iUnsealed_g := FnD.ok (F := iUnsealed_F) (cs := iUnsealed_c) V_ok (kC iSumText_k kN) Tryz.func116 (by decide) (by kernel_rfl)
-- impl.recordAt
noncomputable def iRecordAt_F : FnD := { f := 95, fn := Tryz.f95, ps := [pa .str, pa (.int .i64)], rs := [rt .str, rt (.int .i64), rt .bool] }
noncomputable def iRecordAt_c : List (Nat × Sig) := [(151, iReadShort_g), (116, iUnsealed_g)]
noncomputable def iRecordAt_d : ByteArray × Int × Unit → Option ((ByteArray × Int × Bool × Unit) × Unit) := iRecordAt_F.d V iRecordAt_c
noncomputable abbrev iRecordAt_g : Sig := iRecordAt_F.t.sig iRecordAt_d
theorem iRecordAt_b (x1 : ByteArray) (x2 : Int) : iRecordAt_d (x1, (x2, ())) = bnd (iReadShort_d (x1, (x2, ()))) (fun r2 => (cnd (bnot r2.1.2.2.1) (some (zScanner, ())) (cnd (seq r2.1.1 (bs [])) (some (zScanner, ())) (cnd (igt (ssz r2.1.1) (700 : Int)) (some (zScanner, ())) (cnd (ilt (isub .i64 (ssz x1) r2.1.2.1) (4 : Int)) (some (zScanner, ())) (cnd (inb2 x2 (iadd .i64 r2.1.2.1 (4 : Int)) (ssz x1)) (bnd (iUnsealed_d ((ssub x1 x2 (iadd .i64 r2.1.2.1 (4 : Int))), ())) (fun r3 => (cnd (bnot r3.1.2.1) (some (zScanner, ())) (some ((r2.1.1, ((iadd .i64 r2.1.2.1 (4 : Int)), (true, ()))), ()))))) none)))))) := (FnD.eq V iRecordAt_c iRecordAt_F (x1, (x2, ()))).trans (by kernel_rfl)
theorem iRecordAt_k : CallsOk Tryz.prog gls gvs 95 iRecordAt_g := FnD.ok (F := iRecordAt_F) (cs := iRecordAt_c) V_ok (kC iReadShort_k (kC iUnsealed_k kN)) Tryz.func95 (by decide) (by kernel_rfl)
-- impl.ReadJournal
noncomputable def iReadJournal_F : FnD := { f := 40, fn := Tryz.f40, ps := [pa .str], rs := [⟨(.sl .str), (.own 0 .sh), false⟩, rt (.int .i64)], cuts := [(3, [.val 0 .str .sh, .val 4 (.sl .str) (.own 0 .sh), .val 5 (.int .i64) .sh])] }
noncomputable def iReadJournal_c : List (Nat × Sig) := [(95, iRecordAt_g)]
noncomputable def iReadJournal_d : ByteArray × Unit → Option (((List ByteArray) × Int × Unit) × Unit) := iReadJournal_F.d V iReadJournal_c
noncomputable abbrev iReadJournal_g : Sig := iReadJournal_F.t.sig iReadJournal_d
noncomputable def iReadJournal_D3 : ByteArray × (List ByteArray) × Int × Unit → Option (((List ByteArray) × Int × Unit) × Unit) := iReadJournal_F.D V iReadJournal_c 3
theorem iReadJournal_b (x1 : ByteArray) : iReadJournal_d (x1, ()) = iReadJournal_D3 (x1, (([] : List ByteArray), ((0 : Int), ()))) := (FnD.eq V iReadJournal_c iReadJournal_F (x1, ())).trans (by kernel_rfl)
theorem iReadJournal_q3 (x1 : ByteArray) (x2 : (List ByteArray)) (x3 : Int) : iReadJournal_D3 (x1, (x2, (x3, ()))) = bnd (iRecordAt_d (x1, (x3, ()))) (fun r3 => (cnd (bnot r3.1.2.2.1) (some ((x2, (x3, ())), ())) (cnd (fits ((len x2) + (len (r3.1.1 :: ([] : List ByteArray)))) 1) (iReadJournal_D3 (x1, ((app x2 (r3.1.1 :: ([] : List ByteArray))), (r3.1.2.1, ())))) none))) := (FnD.eqC V iReadJournal_c iReadJournal_F 3 (x1, (x2, (x3, ())))).trans (by kernel_rfl)
theorem iReadJournal_k : CallsOk Tryz.prog gls gvs 40 iReadJournal_g := FnD.ok (F := iReadJournal_F) (cs := iReadJournal_c) V_ok (kC iRecordAt_k kN) Tryz.func40 (by decide) (by kernel_rfl)
-- impl.Decimal
noncomputable def iDecimal_F : FnD := { f := 41, fn := Tryz.f41, ps := [pa (.int .i64)], rs := [rt .str] }
noncomputable def iDecimal_c : List (Nat × Sig) := [(96, g_strconv_Itoa_g)]
noncomputable def iDecimal_d : Int × Unit → Option ((ByteArray × Unit) × Unit) := iDecimal_F.d V iDecimal_c
noncomputable abbrev iDecimal_g : Sig := iDecimal_F.t.sig iDecimal_d
theorem iDecimal_b (x1 : Int) : iDecimal_d (x1, ()) = bnd (g_strconv_Itoa_d (x1, ())) (fun r1 => (some ((r1.1.1, ()), ()))) := (FnD.eq V iDecimal_c iDecimal_F (x1, ())).trans (by kernel_rfl)
theorem iDecimal_k : CallsOk Tryz.prog gls gvs 41 iDecimal_g := FnD.ok (F := iDecimal_F) (cs := iDecimal_c) V_ok (kC g_strconv_Itoa_k kN) Tryz.func41 (by decide) (by kernel_rfl)
-- impl.isSlot
noncomputable def iIsSlot_F : FnD := { f := 69, fn := Tryz.f69, ps := [pa (.int .i64)], rs := [rt .bool] }
noncomputable def iIsSlot_c : List (Nat × Sig) := []
noncomputable def iIsSlot_d : Int × Unit → Option ((Bool × Unit) × Unit) := iIsSlot_F.d V iIsSlot_c
noncomputable abbrev iIsSlot_g : Sig := iIsSlot_F.t.sig iIsSlot_d
theorem iIsSlot_b (x1 : Int) : iIsSlot_d (x1, ()) = cnd (ige x1 (0 : Int)) (some (((ile x1 (10000 : Int)), ()), ())) (some ((false, ()), ())) := (FnD.eq V iIsSlot_c iIsSlot_F (x1, ())).trans (by kernel_rfl)
theorem iIsSlot_k : CallsOk Tryz.prog gls gvs 69 iIsSlot_g := FnD.ok (F := iIsSlot_F) (cs := iIsSlot_c) V_ok kN Tryz.func69 (by decide) (by kernel_rfl)
-- impl.isDigest
noncomputable def iIsDigest_F : FnD := { f := 201, fn := Tryz.f201, ps := [pa .str], rs := [rt .bool] }
noncomputable def iIsDigest_c : List (Nat × Sig) := []
noncomputable def iIsDigest_d : ByteArray × Unit → Option ((Bool × Unit) × Unit) := iIsDigest_F.d V iIsDigest_c
noncomputable abbrev iIsDigest_g : Sig := iIsDigest_F.t.sig iIsDigest_d
theorem iIsDigest_b (x1 : ByteArray) : iIsDigest_d (x1, ()) = some (((ieq (ssz x1) (32 : Int)), ()), ()) := (FnD.eq V iIsDigest_c iIsDigest_F (x1, ())).trans (by kernel_rfl)
theorem iIsDigest_k : CallsOk Tryz.prog gls gvs 201 iIsDigest_g := FnD.ok (F := iIsDigest_F) (cs := iIsDigest_c) V_ok kN Tryz.func201 (by decide) (by kernel_rfl)
-- impl.HeadOk
noncomputable def iHeadOk_F : FnD := { f := 135, fn := Tryz.f135, ps := [pa THead], rs := [rt .bool] }
noncomputable def iHeadOk_c : List (Nat × Sig) := [(69, iIsSlot_g), (201, iIsDigest_g)]
noncomputable def iHeadOk_d : tHead × Unit → Option ((Bool × Unit) × Unit) := iHeadOk_F.d V iHeadOk_c
noncomputable abbrev iHeadOk_g : Sig := iHeadOk_F.t.sig iHeadOk_d
theorem iHeadOk_b (x1 : tHead) : iHeadOk_d (x1, ()) = bnd (iIsSlot_d (x1.1, ())) (fun r1 => (cnd r1.1.1 (bnd (iIsDigest_d (x1.2.1, ())) (fun r2 => (cnd r2.1.1 (bnd (iIsDigest_d (x1.2.2.1, ())) (fun r3 => (cnd r3.1.1 (bnd (iIsDigest_d (x1.2.2.2.1, ())) (fun r4 => (some ((r4.1.1, ()), ())))) (some ((false, ()), ()))))) (some ((false, ()), ()))))) (some ((false, ()), ())))) := (FnD.eq V iHeadOk_c iHeadOk_F (x1, ())).trans (by kernel_rfl)
theorem iHeadOk_k : CallsOk Tryz.prog gls gvs 135 iHeadOk_g := FnD.ok (F := iHeadOk_F) (cs := iHeadOk_c) V_ok (kC iIsSlot_k (kC iIsDigest_k kN)) Tryz.func135 (by decide) (by kernel_rfl)
-- impl.varText
noncomputable def iVarText_F : FnD := { f := 154, fn := Tryz.f154, ps := [pa (.int .i64)], rs := [rt .str], cuts := [(2, [.val 0 (.int .i64) .sh, .val 3 (.sl (.int .u8)) (.own 0 .sh)])] }
noncomputable def iVarText_c : List (Nat × Sig) := []
noncomputable def iVarText_d : Int × Unit → Option ((ByteArray × Unit) × Unit) := iVarText_F.d V iVarText_c
noncomputable abbrev iVarText_g : Sig := iVarText_F.t.sig iVarText_d
noncomputable def iVarText_D2 : Int × (List Int) × Unit → Option ((ByteArray × Unit) × Unit) := iVarText_F.D V iVarText_c 2
theorem iVarText_b (x1 : Int) : iVarText_d (x1, ()) = iVarText_D2 (x1, (([] : List Int), ())) := (FnD.eq V iVarText_c iVarText_F (x1, ())).trans (by kernel_rfl)
theorem iVarText_q2 (x1 : Int) (x2 : (List Int)) : iVarText_D2 (x1, (x2, ())) = cnd (igt x1 (127 : Int)) (cnd (nz (128 : Int)) (cnd (fits ((len x2) + (len ((iconv .u8 (iadd .i64 (128 : Int) (irem x1 (128 : Int)))) :: ([] : List Int)))) 1) (cnd (nz (128 : Int)) (iVarText_D2 ((iquo .i64 x1 (128 : Int)), ((app x2 ((iconv .u8 (iadd .i64 (128 : Int) (irem x1 (128 : Int)))) :: ([] : List Int))), ()))) none) none) none) (cnd (fits ((len x2) + (len ((iconv .u8 x1) :: ([] : List Int)))) 1) (some (((sof (app x2 ((iconv .u8 x1) :: ([] : List Int)))), ()), ())) none) := (FnD.eqC V iVarText_c iVarText_F 2 (x1, (x2, ()))).trans (by kernel_rfl)
theorem iVarText_k : CallsOk Tryz.prog gls gvs 154 iVarText_g := FnD.ok (F := iVarText_F) (cs := iVarText_c) V_ok kN Tryz.func154 (by decide) (by kernel_rfl)
-- impl.KeccakPad
noncomputable def iKeccakPad_F : FnD := { f := 269, fn := Tryz.f269, ps := [pa .str], rs := [rt .str] }
noncomputable def iKeccakPad_c : List (Nat × Sig) := [(299, g_strings_Repeat_g)]
noncomputable def iKeccakPad_d : ByteArray × Unit → Option ((ByteArray × Unit) × Unit) := iKeccakPad_F.d V iKeccakPad_c
noncomputable abbrev iKeccakPad_g : Sig := iKeccakPad_F.t.sig iKeccakPad_d
theorem iKeccakPad_b (x1 : ByteArray) : iKeccakPad_d (x1, ()) = cnd (nz (136 : Int)) (cnd (fits ((ssz x1) + (ssz (bs [1]))) 1) (bnd (g_strings_Repeat_d ((bs [0]), ((isub .i64 (135 : Int) (irem (ssz x1) (136 : Int))), ()))) (fun r1 => (cnd (fits ((ssz (scat x1 (bs [1]))) + (ssz r1.1.1)) 1) (cnd (inb (isub .i64 (len (sbytes (scat (scat x1 (bs [1])) r1.1.1))) (1 : Int)) (len (sbytes (scat (scat x1 (bs [1])) r1.1.1)))) (cnd (inb (isub .i64 (len (sbytes (scat (scat x1 (bs [1])) r1.1.1))) (1 : Int)) (len (sbytes (scat (scat x1 (bs [1])) r1.1.1)))) (some (((sof (upd (sbytes (scat (scat x1 (bs [1])) r1.1.1)) (isub .i64 (len (sbytes (scat (scat x1 (bs [1])) r1.1.1))) (1 : Int)) (ior .u8 (rd (0 : Int) (sbytes (scat (scat x1 (bs [1])) r1.1.1)) (isub .i64 (len (sbytes (scat (scat x1 (bs [1])) r1.1.1))) (1 : Int))) (128 : Int)))), ()), ())) none) none) none))) none) none := (FnD.eq V iKeccakPad_c iKeccakPad_F (x1, ())).trans (by kernel_rfl)
theorem iKeccakPad_k : CallsOk Tryz.prog gls gvs 269 iKeccakPad_g := FnD.ok (F := iKeccakPad_F) (cs := iKeccakPad_c) V_ok (kC g_strings_Repeat_k kN) Tryz.func269 (by decide) (by kernel_rfl)
-- impl.wordAt
noncomputable def iWordAt_F : FnD := { f := 270, fn := Tryz.f270, ps := [pa .str, pa (.int .i64)], rs := [rt (.int .u64)], cuts := [(3, [.val 0 .str .sh, .val 1 (.int .i64) .sh, .val 5 (.int .u64) .sh, .val 6 (.int .i64) .sh])] }
noncomputable def iWordAt_c : List (Nat × Sig) := []
noncomputable def iWordAt_d : ByteArray × Int × Unit → Option ((Int × Unit) × Unit) := iWordAt_F.d V iWordAt_c
noncomputable abbrev iWordAt_g : Sig := iWordAt_F.t.sig iWordAt_d
noncomputable def iWordAt_D3 : ByteArray × Int × Int × Int × Unit → Option ((Int × Unit) × Unit) := iWordAt_F.D V iWordAt_c 3
theorem iWordAt_b (x1 : ByteArray) (x2 : Int) : iWordAt_d (x1, (x2, ())) = iWordAt_D3 (x1, (x2, ((0 : Int), ((7 : Int), ())))) := (FnD.eq V iWordAt_c iWordAt_F (x1, (x2, ()))).trans (by kernel_rfl)
theorem iWordAt_q3 (x1 : ByteArray) (x2 : Int) (x3 : Int) (x4 : Int) : iWordAt_D3 (x1, (x2, (x3, (x4, ())))) = cnd (ige x4 (0 : Int)) (cnd (nn (8 : Int)) (cnd (inb (iadd .i64 x2 x4) (ssz x1)) (iWordAt_D3 (x1, (x2, ((ior .u64 (ishl .u64 x3 (8 : Int)) (iconv .u64 (sat x1 (iadd .i64 x2 x4)))), ((isub .i64 x4 (1 : Int)), ()))))) none) none) (some ((x3, ()), ())) := (FnD.eqC V iWordAt_c iWordAt_F 3 (x1, (x2, (x3, (x4, ()))))).trans (by kernel_rfl)
theorem iWordAt_k : CallsOk Tryz.prog gls gvs 270 iWordAt_g := FnD.ok (F := iWordAt_F) (cs := iWordAt_c) V_ok kN Tryz.func270 (by decide) (by kernel_rfl)
-- math/bits.RotateLeft64
noncomputable def g_math_bits_RotateLeft64_F : FnD := { f := 315, fn := Tryz.f315, ps := [pa (.int .u64), pa (.int .i64)], rs := [rt (.int .u64)] }
noncomputable def g_math_bits_RotateLeft64_c : List (Nat × Sig) := []
noncomputable def g_math_bits_RotateLeft64_d : Int × Int × Unit → Option ((Int × Unit) × Unit) := g_math_bits_RotateLeft64_F.d V g_math_bits_RotateLeft64_c
noncomputable abbrev g_math_bits_RotateLeft64_g : Sig := g_math_bits_RotateLeft64_F.t.sig g_math_bits_RotateLeft64_d
theorem g_math_bits_RotateLeft64_b (x1 : Int) (x2 : Int) : g_math_bits_RotateLeft64_d (x1, (x2, ())) = cnd (nn (iand .u64 (iconv .u64 x2) (63 : Int))) (cnd (nn (isub .u64 (64 : Int) (iand .u64 (iconv .u64 x2) (63 : Int)))) (some (((ior .u64 (ishl .u64 x1 (iand .u64 (iconv .u64 x2) (63 : Int))) (ishr .u64 x1 (isub .u64 (64 : Int) (iand .u64 (iconv .u64 x2) (63 : Int))))), ()), ())) none) none := (FnD.eq V g_math_bits_RotateLeft64_c g_math_bits_RotateLeft64_F (x1, (x2, ()))).trans (by kernel_rfl)
theorem g_math_bits_RotateLeft64_k : CallsOk Tryz.prog gls gvs 315 g_math_bits_RotateLeft64_g := FnD.ok (F := g_math_bits_RotateLeft64_F) (cs := g_math_bits_RotateLeft64_c) V_ok kN Tryz.func315 (by decide) (by kernel_rfl)
-- (*impl.sponge).round
noncomputable def iSponge_round_F : FnD := { f := 300, fn := Tryz.f300, ps := [⟨(.arr 25 (.int .u64)), .sh, true, true, none⟩, pa (.int .i64)], rs := [], cuts := [(2, [.val 1 (.int .i64) .sh, .val 12 (.int .i64) .sh, .box 0 (.arr 25 (.int .u64)) .sh, .box 4 (.arr 5 (.int .u64)) .sh, .ptr 0 0 0, .ptr 4 4 0]), (11, [.val 1 (.int .i64) .sh, .val 7 (.int .i64) .sh, .val 51 (.int .i64) .sh, .val 54 (.int .i64) .sh, .box 0 (.arr 25 (.int .u64)) .sh, .box 4 (.arr 5 (.int .u64)) .sh, .box 6 (.arr 25 (.int .u64)) .sh, .ptr 0 0 0, .ptr 4 4 0, .ptr 6 6 0]), (8, [.val 1 (.int .i64) .sh, .val 51 (.int .i64) .sh, .box 0 (.arr 25 (.int .u64)) .sh, .box 4 (.arr 5 (.int .u64)) .sh, .box 6 (.arr 25 (.int .u64)) .sh, .ptr 0 0 0, .ptr 4 4 0, .ptr 6 6 0]), (21, [.val 1 (.int .i64) .sh, .val 10 (.int .i64) .sh, .val 98 (.int .i64) .sh, .val 101 (.int .i64) .sh, .box 0 (.arr 25 (.int .u64)) .sh, .box 6 (.arr 25 (.int .u64)) .sh, .ptr 0 0 0, .ptr 6 6 0]), (18, [.val 1 (.int .i64) .sh, .val 98 (.int .i64) .sh, .box 0 (.arr 25 (.int .u64)) .sh, .box 6 (.arr 25 (.int .u64)) .sh, .ptr 0 0 0, .ptr 6 6 0])] }
noncomputable def iSponge_round_c : List (Nat × Sig) := [(315, g_math_bits_RotateLeft64_g)]
noncomputable def iSponge_round_d : (List Int) × Int × Unit → Option ((Unit) × (List Int) × Unit) := iSponge_round_F.d V iSponge_round_c
noncomputable abbrev iSponge_round_g : Sig := iSponge_round_F.t.sig iSponge_round_d
noncomputable def iSponge_round_D2 : Int × Int × (List Int) × (List Int) × Unit → Option ((Unit) × (List Int) × Unit) := iSponge_round_F.D V iSponge_round_c 2
noncomputable def iSponge_round_D11 : Int × Int × Int × Int × (List Int) × (List Int) × (List Int) × Unit → Option ((Unit) × (List Int) × Unit) := iSponge_round_F.D V iSponge_round_c 11
noncomputable def iSponge_round_D8 : Int × Int × (List Int) × (List Int) × (List Int) × Unit → Option ((Unit) × (List Int) × Unit) := iSponge_round_F.D V iSponge_round_c 8
noncomputable def iSponge_round_D21 : Int × Int × Int × Int × (List Int) × (List Int) × Unit → Option ((Unit) × (List Int) × Unit) := iSponge_round_F.D V iSponge_round_c 21
noncomputable def iSponge_round_D18 : Int × Int × (List Int) × (List Int) × Unit → Option ((Unit) × (List Int) × Unit) := iSponge_round_F.D V iSponge_round_c 18
theorem iSponge_round_b (x1 : (List Int)) (x2 : Int) : iSponge_round_d (x1, (x2, ())) = iSponge_round_D2 (x2, ((0 : Int), (x1, (((0 : Int) :: ((0 : Int) :: ((0 : Int) :: ((0 : Int) :: ((0 : Int) :: ([] : List Int)))))), ())))) := (FnD.eq V iSponge_round_c iSponge_round_F (x1, (x2, ()))).trans (by kernel_rfl)
theorem iSponge_round_q2 (x1 : Int) (x2 : Int) (x3 : (List Int)) (x4 : (List Int)) : iSponge_round_D2 (x1, (x2, (x3, (x4, ())))) = cnd (ilt x2 (5 : Int)) (cnd (inb x2 (25 : Int)) (cnd (inb (iadd .i64 x2 (5 : Int)) (25 : Int)) (cnd (inb (iadd .i64 x2 (10 : Int)) (25 : Int)) (cnd (inb (iadd .i64 x2 (15 : Int)) (25 : Int)) (cnd (inb (iadd .i64 x2 (20 : Int)) (25 : Int)) (cnd (inb x2 (5 : Int)) (iSponge_round_D2 (x1, ((iadd .i64 x2 (1 : Int)), (x3, ((upd x4 x2 (ixor .u64 (ixor .u64 (ixor .u64 (ixor .u64 (rd (0 : Int) x3 x2) (rd (0 : Int) x3 (iadd .i64 x2 (5 : Int)))) (rd (0 : Int) x3 (iadd .i64 x2 (10 : Int)))) (rd (0 : Int) x3 (iadd .i64 x2 (15 : Int)))) (rd (0 : Int) x3 (iadd .i64 x2 (20 : Int))))), ()))))) none) none) none) none) none) none) (iSponge_round_D8 (x1, ((0 : Int), (x3, (x4, (((0 : Int) :: ((0 : Int) :: ((0 : Int) :: ((0 : Int) :: ((0 : Int) :: ((0 : Int) :: ((0 : Int) :: ((0 : Int) :: ((0 : Int) :: ((0 : Int) :: ((0 : Int) :: ((0 : Int) :: ((0 : Int) :: ((0 : Int) :: ((0 : Int) :: ((0 : Int) :: ((0 : Int) :: ((0 : Int) :: ((0 : Int) :: ((0 : Int) :: ((0 : Int) :: ((0 : Int) :: ((0 : Int) :: ((0 : Int) :: ((0 : Int) :: ([] : List Int)))))))))))))))))))))))))), ())))))) := (FnD.eqC V iSponge_round_c iSponge_round_F 2 (x1, (x2, (x3, (x4, ()))))).trans (by kernel_rfl)
theorem iSponge_round_q11 (x1 : Int) (x2 : Int) (x3 : Int) (x4 : Int) (x5 : (List Int)) (x6 : (List Int)) (x7 : (List Int)) : iSponge_round_D11 (x1, (x2, (x3, (x4, (x5, (x6, (x7, ()))))))) = cnd (ilt x4 (5 : Int)) (cnd (nz (5 : Int)) (cnd (inb (irem (iadd .i64 x4 (4 : Int)) (5 : Int)) (5 : Int)) (cnd (nz (5 : Int)) (cnd (inb (irem (iadd .i64 x4 (1 : Int)) (5 : Int)) (5 : Int)) (bnd (g_math_bits_RotateLeft64_d ((rd (0 : Int) x6 (irem (iadd .i64 x4 (1 : Int)) (5 : Int))), ((1 : Int), ()))) (fun r7 => (cnd (nz (5 : Int)) (cnd (inb (iadd .i64 x4 (imul .i64 (5 : Int) x2)) (25 : Int)) (cnd (inb (iadd .i64 x4 (imul .i64 (5 : Int) x2)) (25 : Int)) (bnd (g_math_bits_RotateLeft64_d ((ixor .u64 (rd (0 : Int) x5 (iadd .i64 x4 (imul .i64 (5 : Int) x2))) (ixor .u64 (rd (0 : Int) x6 (irem (iadd .i64 x4 (4 : Int)) (5 : Int))) r7.1.1)), ((rd (0 : Int) G_impl_turns (iadd .i64 x4 (imul .i64 (5 : Int) x2))), ()))) (fun r8 => (cnd (inb (iadd .i64 x2 (imul .i64 (5 : Int) (irem (iadd .i64 (imul .i64 (2 : Int) x4) (imul .i64 (3 : Int) x2)) (5 : Int)))) (25 : Int)) (iSponge_round_D11 (x1, (x2, (x3, ((iadd .i64 x4 (1 : Int)), (x5, (x6, ((upd x7 (iadd .i64 x2 (imul .i64 (5 : Int) (irem (iadd .i64 (imul .i64 (2 : Int) x4) (imul .i64 (3 : Int) x2)) (5 : Int)))) r8.1.1), ())))))))) none))) none) none) none))) none) none) none) none) (iSponge_round_D8 (x1, ((iadd .i64 x3 (1 : Int)), (x5, (x6, (x7, ())))))) := (FnD.eqC V iSponge_round_c iSponge_round_F 11 (x1, (x2, (x3, (x4, (x5, (x6, (x7, ())))))))).trans (by kernel_rfl)
theorem iSponge_round_q8 (x1 : Int) (x2 : Int) (x3 : (List Int)) (x4 : (List Int)) (x5 : (List Int)) : iSponge_round_D8 (x1, (x2, (x3, (x4, (x5, ()))))) = cnd (ilt x2 (5 : Int)) (iSponge_round_D11 (x1, (x2, (x2, ((0 : Int), (x3, (x4, (x5, ())))))))) (iSponge_round_D18 (x1, ((0 : Int), (x3, (x5, ()))))) := (FnD.eqC V iSponge_round_c iSponge_round_F 8 (x1, (x2, (x3, (x4, (x5, ())))))).trans (by kernel_rfl)
theorem iSponge_round_q21 (x1 : Int) (x2 : Int) (x3 : Int) (x4 : Int) (x5 : (List Int)) (x6 : (List Int)) : iSponge_round_D21 (x1, (x2, (x3, (x4, (x5, (x6, ())))))) = cnd (ilt x4 (5 : Int)) (cnd (inb (iadd .i64 x4 (imul .i64 (5 : Int) x2)) (25 : Int)) (cnd (nz (5 : Int)) (cnd (inb (iadd .i64 (irem (iadd .i64 x4 (1 : Int)) (5 : Int)) (imul .i64 (5 : Int) x2)) (25 : Int)) (cnd (nz (5 : Int)) (cnd (inb (iadd .i64 (irem (iadd .i64 x4 (2 : Int)) (5 : Int)) (imul .i64 (5 : Int) x2)) (25 : Int)) (cnd (inb (iadd .i64 x4 (imul .i64 (5 : Int) x2)) (25 : Int)) (iSponge_round_D21 (x1, (x2, (x3, ((iadd .i64 x4 (1 : Int)), ((upd x5 (iadd .i64 x4 (imul .i64 (5 : Int) x2)) (ixor .u64 (rd (0 : Int) x6 (iadd .i64 x4 (imul .i64 (5 : Int) x2))) (iand .u64 (inot .u64 (rd (0 : Int) x6 (iadd .i64 (irem (iadd .i64 x4 (1 : Int)) (5 : Int)) (imul .i64 (5 : Int) x2)))) (rd (0 : Int) x6 (iadd .i64 (irem (iadd .i64 x4 (2 : Int)) (5 : Int)) (imul .i64 (5 : Int) x2)))))), (x6, ()))))))) none) none) none) none) none) none) (iSponge_round_D18 (x1, ((iadd .i64 x3 (1 : Int)), (x5, (x6, ()))))) := (FnD.eqC V iSponge_round_c iSponge_round_F 21 (x1, (x2, (x3, (x4, (x5, (x6, ()))))))).trans (by kernel_rfl)
theorem iSponge_round_q18 (x1 : Int) (x2 : Int) (x3 : (List Int)) (x4 : (List Int)) : iSponge_round_D18 (x1, (x2, (x3, (x4, ())))) = cnd (ilt x2 (5 : Int)) (iSponge_round_D21 (x1, (x2, (x2, ((0 : Int), (x3, (x4, ()))))))) (cnd (inb (0 : Int) (25 : Int)) (cnd (inb x1 (24 : Int)) (cnd (inb (0 : Int) (25 : Int)) (some ((), ((upd x3 (0 : Int) (ixor .u64 (rd (0 : Int) x3 (0 : Int)) (rd (0 : Int) G_impl_roundConstants x1))), ()))) none) none) none) := (FnD.eqC V iSponge_round_c iSponge_round_F 18 (x1, (x2, (x3, (x4, ()))))).trans (by kernel_rfl)
theorem iSponge_round_k : CallsOk Tryz.prog gls gvs 300 iSponge_round_g := FnD.ok (F := iSponge_round_F) (cs := iSponge_round_c) V_ok (kC g_math_bits_RotateLeft64_k kN) Tryz.func300 (by decide) (by kernel_rfl)
-- (*impl.sponge).rounds
noncomputable def iSponge_rounds_F : FnD := { f := 271, fn := Tryz.f271, ps := [⟨(.arr 25 (.int .u64)), .sh, true, true, none⟩], rs := [], cuts := [(1, [.val 3 (.int .i64) .sh, .box 0 (.arr 25 (.int .u64)) .sh, .ptr 0 0 0])] }
noncomputable def iSponge_rounds_c : List (Nat × Sig) := [(300, iSponge_round_g)]
noncomputable def iSponge_rounds_d : (List Int) × Unit → Option ((Unit) × (List Int) × Unit) := iSponge_rounds_F.d V iSponge_rounds_c
noncomputable abbrev iSponge_rounds_g : Sig := iSponge_rounds_F.t.sig iSponge_rounds_d
noncomputable def iSponge_rounds_D1 : Int × (List Int) × Unit → Option ((Unit) × (List Int) × Unit) := iSponge_rounds_F.D V iSponge_rounds_c 1
theorem iSponge_rounds_b (x1 : (List Int)) : iSponge_rounds_d (x1, ()) = iSponge_rounds_D1 ((0 : Int), (x1, ())) := (FnD.eq V iSponge_rounds_c iSponge_rounds_F (x1, ())).trans (by kernel_rfl)
theorem iSponge_rounds_q1 (x1 : Int) (x2 : (List Int)) : iSponge_rounds_D1 (x1, (x2, ())) = cnd (ilt x1 (24 : Int)) (bnd (iSponge_round_d (x2, (x1, ()))) (fun r2 => (iSponge_rounds_D1 ((iadd .i64 x1 (1 : Int)), (r2.2.1, ()))))) (some ((), (x2, ()))) := (FnD.eqC V iSponge_rounds_c iSponge_rounds_F 1 (x1, (x2, ()))).trans (by kernel_rfl)
theorem iSponge_rounds_k : CallsOk Tryz.prog gls gvs 271 iSponge_rounds_g := FnD.ok (F := iSponge_rounds_F) (cs := iSponge_rounds_c) V_ok (kC iSponge_round_k kN) Tryz.func271 (by decide) (by kernel_rfl)
-- impl.wordBytes
noncomputable def iWordBytes_F : FnD := { f := 301, fn := Tryz.f301, ps := [⟨(.sl (.int .u8)), (.own 0 .sh), false, false, none⟩, pa (.int .u64)], rs := [⟨(.sl (.int .u8)), (.own 0 .sh), false⟩], cuts := [(2, [.val 0 (.sl (.int .u8)) (.own 0 .sh), .val 1 (.int .u64) .sh, .val 5 (.int .i64) .sh])] }
noncomputable def iWordBytes_c : List (Nat × Sig) := []
noncomputable def iWordBytes_d : (List Int) × Int × Unit → Option (((List Int) × Unit) × Unit) := iWordBytes_F.d V iWordBytes_c
noncomputable abbrev iWordBytes_g : Sig := iWordBytes_F.t.sig iWordBytes_d
noncomputable def iWordBytes_D2 : (List Int) × Int × Int × Unit → Option (((List Int) × Unit) × Unit) := iWordBytes_F.D V iWordBytes_c 2
theorem iWordBytes_b (x1 : (List Int)) (x2 : Int) : iWordBytes_d (x1, (x2, ())) = iWordBytes_D2 (x1, (x2, ((0 : Int), ()))) := (FnD.eq V iWordBytes_c iWordBytes_F (x1, (x2, ()))).trans (by kernel_rfl)
theorem iWordBytes_q2 (x1 : (List Int)) (x2 : Int) (x3 : Int) : iWordBytes_D2 (x1, (x2, (x3, ()))) = cnd (ilt x3 (8 : Int)) (cnd (fits ((len x1) + (len ((iconv .u8 x2) :: ([] : List Int)))) 1) (cnd (nn (8 : Int)) (iWordBytes_D2 ((app x1 ((iconv .u8 x2) :: ([] : List Int))), ((ishr .u64 x2 (8 : Int)), ((iadd .i64 x3 (1 : Int)), ())))) none) none) (some ((x1, ()), ())) := (FnD.eqC V iWordBytes_c iWordBytes_F 2 (x1, (x2, (x3, ())))).trans (by kernel_rfl)
theorem iWordBytes_k : CallsOk Tryz.prog gls gvs 301 iWordBytes_g := FnD.ok (F := iWordBytes_F) (cs := iWordBytes_c) V_ok kN Tryz.func301 (by decide) (by kernel_rfl)
-- (*impl.sponge).text
noncomputable def iSponge_text_F : FnD := { f := 272, fn := Tryz.f272, ps := [⟨(.arr 25 (.int .u64)), .sh, true, true, none⟩], rs := [rt .str], cuts := [(3, [.val 3 (.sl (.int .u8)) (.own 0 .sh), .val 8 (.int .i64) .sh, .box 0 (.arr 25 (.int .u64)) .sh, .ptr 0 0 0, .ptr 7 0 0])] }
noncomputable def iSponge_text_c : List (Nat × Sig) := [(301, iWordBytes_g)]
noncomputable def iSponge_text_d : (List Int) × Unit → Option ((ByteArray × Unit) × (List Int) × Unit) := iSponge_text_F.d V iSponge_text_c
noncomputable abbrev iSponge_text_g : Sig := iSponge_text_F.t.sig iSponge_text_d
noncomputable def iSponge_text_D3 : (List Int) × Int × (List Int) × Unit → Option ((ByteArray × Unit) × (List Int) × Unit) := iSponge_text_F.D V iSponge_text_c 3
theorem iSponge_text_b (x1 : (List Int)) : iSponge_text_d (x1, ()) = cnd (both (inb2 (0 : Int) (0 : Int) (200 : Int)) (fits (200 : Int) 1)) (iSponge_text_D3 ((rep (0 : Int) (0 : Int)), ((0 : Int), (x1, ())))) none := (FnD.eq V iSponge_text_c iSponge_text_F (x1, ())).trans (by kernel_rfl)
theorem iSponge_text_q3 (x1 : (List Int)) (x2 : Int) (x3 : (List Int)) : iSponge_text_D3 (x1, (x2, (x3, ()))) = cnd (ilt x2 (25 : Int)) (cnd (inb x2 (25 : Int)) (bnd (iWordBytes_d (x1, ((rd (0 : Int) x3 x2), ()))) (fun r3 => (iSponge_text_D3 (r3.1.1, ((iadd .i64 x2 (1 : Int)), (x3, ())))))) none) (some (((sof x1), ()), (x3, ()))) := (FnD.eqC V iSponge_text_c iSponge_text_F 3 (x1, (x2, (x3, ())))).trans (by kernel_rfl)
theorem iSponge_text_k : CallsOk Tryz.prog gls gvs 272 iSponge_text_g := FnD.ok (F := iSponge_text_F) (cs := iSponge_text_c) V_ok (kC iWordBytes_k kN) Tryz.func272 (by decide) (by kernel_rfl)
-- impl.Digest
noncomputable def iDigest_F : FnD := { f := 236, fn := Tryz.f236, ps := [pa .str], rs := [rt .str], cuts := [(7, [.val 3 .str .sh, .val 5 (.int .i64) .sh, .val 15 (.int .i64) .sh, .box 4 (.arr 25 (.int .u64)) .sh, .ptr 4 4 0]), (4, [.val 3 .str .sh, .val 5 (.int .i64) .sh, .box 4 (.arr 25 (.int .u64)) .sh, .ptr 4 4 0])] }
noncomputable def iDigest_c : List (Nat × Sig) := [(269, iKeccakPad_g), (270, iWordAt_g), (271, iSponge_rounds_g), (272, iSponge_text_g)]
noncomputable def iDigest_d : ByteArray × Unit → Option ((ByteArray × Unit) × Unit) := iDigest_F.d V iDigest_c
noncomputable abbrev iDigest_g : Sig := iDigest_F.t.sig iDigest_d
noncomputable def iDigest_D7 : ByteArray × Int × Int × (List Int) × Unit → Option ((ByteArray × Unit) × Unit) := iDigest_F.D V iDigest_c 7
noncomputable def iDigest_D4 : ByteArray × Int × (List Int) × Unit → Option ((ByteArray × Unit) × Unit) := iDigest_F.D V iDigest_c 4
theorem iDigest_b (x1 : ByteArray) : iDigest_d (x1, ()) = bnd (iKeccakPad_d (x1, ())) (fun r1 => (iDigest_D4 (r1.1.1, ((0 : Int), (((0 : Int) :: ((0 : Int) :: ((0 : Int) :: ((0 : Int) :: ((0 : Int) :: ((0 : Int) :: ((0 : Int) :: ((0 : Int) :: ((0 : Int) :: ((0 : Int) :: ((0 : Int) :: ((0 : Int) :: ((0 : Int) :: ((0 : Int) :: ((0 : Int) :: ((0 : Int) :: ((0 : Int) :: ((0 : Int) :: ((0 : Int) :: ((0 : Int) :: ((0 : Int) :: ((0 : Int) :: ((0 : Int) :: ((0 : Int) :: ((0 : Int) :: ([] : List Int)))))))))))))))))))))))))), ()))))) := (FnD.eq V iDigest_c iDigest_F (x1, ())).trans (by kernel_rfl)
theorem iDigest_q7 (x1 : ByteArray) (x2 : Int) (x3 : Int) (x4 : (List Int)) : iDigest_D7 (x1, (x2, (x3, (x4, ())))) = cnd (ilt x3 (17 : Int)) (cnd (inb x3 (25 : Int)) (bnd (iWordAt_d (x1, ((iadd .i64 x2 (imul .i64 (8 : Int) x3)), ()))) (fun r4 => (cnd (inb x3 (25 : Int)) (iDigest_D7 (x1, (x2, ((iadd .i64 x3 (1 : Int)), ((upd x4 x3 (ixor .u64 (rd (0 : Int) x4 x3) r4.1.1)), ()))))) none))) none) (bnd (iSponge_rounds_d (x4, ())) (fun r4 => (iDigest_D4 (x1, ((iadd .i64 x2 (136 : Int)), (r4.2.1, ())))))) := (FnD.eqC V iDigest_c iDigest_F 7 (x1, (x2, (x3, (x4, ()))))).trans (by kernel_rfl)
theorem iDigest_q4 (x1 : ByteArray) (x2 : Int) (x3 : (List Int)) : iDigest_D4 (x1, (x2, (x3, ()))) = cnd (ilt x2 (ssz x1)) (iDigest_D7 (x1, (x2, ((0 : Int), (x3, ()))))) (bnd (iSponge_text_d (x3, ())) (fun r3 => (cnd (inb2 (0 : Int) (32 : Int) (ssz r3.1.1)) (some (((ssub r3.1.1 (0 : Int) (32 : Int)), ()), ())) none))) := (FnD.eqC V iDigest_c iDigest_F 4 (x1, (x2, (x3, ())))).trans (by kernel_rfl)
theorem iDigest_k : CallsOk Tryz.prog gls gvs 236 iDigest_g := FnD.ok (F := iDigest_F) (cs := iDigest_c) V_ok (kC iKeccakPad_k (kC iWordAt_k (kC iSponge_rounds_k (kC iSponge_text_k kN)))) Tryz.func236 (by decide) (by kernel_rfl)
-- impl.DigestPair
noncomputable def iDigestPair_F : FnD := { f := 237, fn := Tryz.f237, ps := [pa .str, pa .str], rs := [rt .str] }
noncomputable def iDigestPair_c : List (Nat × Sig) := [(236, iDigest_g)]
noncomputable def iDigestPair_d : ByteArray × ByteArray × Unit → Option ((ByteArray × Unit) × Unit) := iDigestPair_F.d V iDigestPair_c
noncomputable abbrev iDigestPair_g : Sig := iDigestPair_F.t.sig iDigestPair_d
theorem iDigestPair_b (x1 : ByteArray) (x2 : ByteArray) : iDigestPair_d (x1, (x2, ())) = cnd (fits ((ssz x1) + (ssz x2)) 1) (bnd (iDigest_d ((scat x1 x2), ())) (fun r2 => (some ((r2.1.1, ()), ())))) none := (FnD.eq V iDigestPair_c iDigestPair_F (x1, (x2, ()))).trans (by kernel_rfl)
theorem iDigestPair_k : CallsOk Tryz.prog gls gvs 237 iDigestPair_g := FnD.ok (F := iDigestPair_F) (cs := iDigestPair_c) V_ok (kC iDigest_k kN) Tryz.func237 (by decide) (by kernel_rfl)
-- impl.levelsOfTree
noncomputable def iLevelsOfTree_F : FnD := { f := 211, fn := Tryz.f211, ps := [pa (.sl .str)], rs := [⟨(.sl (.sl .str)), (.own 0 .sh), false⟩], al := true, fz := [37, 62], cuts := [(3, [.val 3 (.sl .str) (.own 0 .sh), .val 9 (.sl .str) .sh, .val 10 (.int .i64) .sh, .val 11 (.int .i64) .sh]), (7, [.val 3 (.sl .str) (.own 0 .sh)]), (13, [.val 3 (.sl .str) .sh, .val 6 (.sl (.sl .str)) (.own 0 .sh), .val 7 (.sl .str) (.own 0 .sh), .val 8 (.int .i64) .sh]), (10, [.val 3 (.sl .str) .sh, .val 6 (.sl (.sl .str)) (.own 0 .sh)])] }
noncomputable def iLevelsOfTree_c : List (Nat × Sig) := [(236, iDigest_g), (237, iDigestPair_g)]
noncomputable def iLevelsOfTree_d : (List ByteArray) × Unit → Option (((List (List ByteArray)) × Unit) × Unit) := iLevelsOfTree_F.d V iLevelsOfTree_c
noncomputable abbrev iLevelsOfTree_g : Sig := iLevelsOfTree_F.t.sig iLevelsOfTree_d
noncomputable def iLevelsOfTree_D3 : (List ByteArray) × (List ByteArray) × Int × Int × Unit → Option (((List (List ByteArray)) × Unit) × Unit) := iLevelsOfTree_F.D V iLevelsOfTree_c 3
noncomputable def iLevelsOfTree_D7 : (List ByteArray) × Unit → Option (((List (List ByteArray)) × Unit) × Unit) := iLevelsOfTree_F.D V iLevelsOfTree_c 7
noncomputable def iLevelsOfTree_D13 : (List ByteArray) × (List (List ByteArray)) × (List ByteArray) × Int × Unit → Option (((List (List ByteArray)) × Unit) × Unit) := iLevelsOfTree_F.D V iLevelsOfTree_c 13
noncomputable def iLevelsOfTree_D10 : (List ByteArray) × (List (List ByteArray)) × Unit → Option (((List (List ByteArray)) × Unit) × Unit) := iLevelsOfTree_F.D V iLevelsOfTree_c 10
theorem iLevelsOfTree_b (x1 : (List ByteArray)) : iLevelsOfTree_d (x1, ()) = iLevelsOfTree_D3 (([] : List ByteArray), (x1, ((len x1), ((0 : Int), ())))) := (FnD.eq V iLevelsOfTree_c iLevelsOfTree_F (x1, ())).trans (by kernel_rfl)
theorem iLevelsOfTree_q3 (x1 : (List ByteArray)) (x2 : (List ByteArray)) (x3 : Int) (x4 : Int) : iLevelsOfTree_D3 (x1, (x2, (x3, (x4, ())))) = cnd (ilt x4 x3) (cnd (inb x4 (len x2)) (bnd (iDigest_d ((rd (bs []) x2 x4), ())) (fun r4 => (cnd (fits ((len x1) + (len (r4.1.1 :: ([] : List ByteArray)))) 1) (iLevelsOfTree_D3 ((app x1 (r4.1.1 :: ([] : List ByteArray))), (x2, (x3, ((iadd .i64 x4 (1 : Int)), ()))))) none))) none) (iLevelsOfTree_D7 (x1, ())) := (FnD.eqC V iLevelsOfTree_c iLevelsOfTree_F 3 (x1, (x2, (x3, (x4, ()))))).trans (by kernel_rfl)
theorem iLevelsOfTree_q7 (x1 : (List ByteArray)) : iLevelsOfTree_D7 (x1, ()) = cnd (ieq (len x1) (0 : Int)) (bnd (iDigest_d ((bs []), ())) (fun r1 => (cnd (fits ((len x1) + (len (r1.1.1 :: ([] : List ByteArray)))) 1) (iLevelsOfTree_D7 ((app x1 (r1.1.1 :: ([] : List ByteArray))), ())) none))) (cnd (ine (iand .i64 (len x1) (isub .i64 (len x1) (1 : Int))) (0 : Int)) (bnd (iDigest_d ((bs []), ())) (fun r1 => (cnd (fits ((len x1) + (len (r1.1.1 :: ([] : List ByteArray)))) 1) (iLevelsOfTree_D7 ((app x1 (r1.1.1 :: ([] : List ByteArray))), ())) none))) (iLevelsOfTree_D10 (x1, ((x1 :: ([] : List (List ByteArray))), ())))) := (FnD.eqC V iLevelsOfTree_c iLevelsOfTree_F 7 (x1, ())).trans (by kernel_rfl)
theorem iLevelsOfTree_q13 (x1 : (List ByteArray)) (x2 : (List (List ByteArray))) (x3 : (List ByteArray)) (x4 : Int) : iLevelsOfTree_D13 (x1, (x2, (x3, (x4, ())))) = cnd (ilt x4 (len x1)) (cnd (inb x4 (len x1)) (cnd (inb (iadd .i64 x4 (1 : Int)) (len x1)) (bnd (iDigestPair_d ((rd (bs []) x1 x4), ((rd (bs []) x1 (iadd .i64 x4 (1 : Int))), ()))) (fun r4 => (cnd (fits ((len x3) + (len (r4.1.1 :: ([] : List ByteArray)))) 1) (iLevelsOfTree_D13 (x1, (x2, ((app x3 (r4.1.1 :: ([] : List ByteArray))), ((iadd .i64 x4 (2 : Int)), ()))))) none))) none) none) (cnd (fits ((len x2) + (len (x3 :: ([] : List (List ByteArray))))) 1) (iLevelsOfTree_D10 (x3, ((app x2 (x3 :: ([] : List (List ByteArray)))), ()))) none) := (FnD.eqC V iLevelsOfTree_c iLevelsOfTree_F 13 (x1, (x2, (x3, (x4, ()))))).trans (by kernel_rfl)
theorem iLevelsOfTree_q10 (x1 : (List ByteArray)) (x2 : (List (List ByteArray))) : iLevelsOfTree_D10 (x1, (x2, ())) = cnd (igt (len x1) (1 : Int)) (iLevelsOfTree_D13 (x1, (x2, (([] : List ByteArray), ((0 : Int), ()))))) (some ((x2, ()), ())) := (FnD.eqC V iLevelsOfTree_c iLevelsOfTree_F 10 (x1, (x2, ()))).trans (by kernel_rfl)
theorem iLevelsOfTree_k : CallsOk Tryz.prog gls gvs 211 iLevelsOfTree_g := FnD.ok (F := iLevelsOfTree_F) (cs := iLevelsOfTree_c) V_ok (kC iDigest_k (kC iDigestPair_k kN)) Tryz.func211 (by decide) (by kernel_rfl)
-- impl.RootOf
noncomputable def iRootOf_F : FnD := { f := 153, fn := Tryz.f153, ps := [pa (.sl .str)], rs := [rt .str] }
noncomputable def iRootOf_c : List (Nat × Sig) := [(211, iLevelsOfTree_g)]
noncomputable def iRootOf_d : (List ByteArray) × Unit → Option ((ByteArray × Unit) × Unit) := iRootOf_F.d V iRootOf_c
noncomputable abbrev iRootOf_g : Sig := iRootOf_F.t.sig iRootOf_d
theorem iRootOf_b (x1 : (List ByteArray)) : iRootOf_d (x1, ()) = cnd (igt (len x1) (32 : Int)) (some (((bs []), ()), ())) (bnd (iLevelsOfTree_d (x1, ())) (fun r1 => (cnd (inb (isub .i64 (len r1.1.1) (1 : Int)) (len r1.1.1)) (cnd (inb (0 : Int) (len (rd ([] : List ByteArray) r1.1.1 (isub .i64 (len r1.1.1) (1 : Int))))) (some (((rd (bs []) (rd ([] : List ByteArray) r1.1.1 (isub .i64 (len r1.1.1) (1 : Int))) (0 : Int)), ()), ())) none) none))) := (FnD.eq V iRootOf_c iRootOf_F (x1, ())).trans (by kernel_rfl)
theorem iRootOf_k : CallsOk Tryz.prog gls gvs 153 iRootOf_g := FnD.ok (F := iRootOf_F) (cs := iRootOf_c) V_ok (kC iLevelsOfTree_k kN) Tryz.func153 (by decide) (by kernel_rfl)
-- impl.HeadRoot
noncomputable def iHeadRoot_F : FnD := { f := 98, fn := Tryz.f98, ps := [pa THead], rs := [rt .str] }
noncomputable def iHeadRoot_c : List (Nat × Sig) := [(135, iHeadOk_g), (154, iVarText_g), (153, iRootOf_g)]
noncomputable def iHeadRoot_d : tHead × Unit → Option ((ByteArray × Unit) × Unit) := iHeadRoot_F.d V iHeadRoot_c
noncomputable abbrev iHeadRoot_g : Sig := iHeadRoot_F.t.sig iHeadRoot_d
theorem iHeadRoot_b (x1 : tHead) : iHeadRoot_d (x1, ()) = bnd (iHeadOk_d (x1, ())) (fun r1 => (cnd (bnot r1.1.1) (some (((bs []), ()), ())) (bnd (iVarText_d (x1.1, ())) (fun r2 => (bnd (iRootOf_d ((r2.1.1 :: (x1.2.1 :: (x1.2.2.1 :: (x1.2.2.2.1 :: ([] : List ByteArray))))), ())) (fun r3 => (some ((r3.1.1, ()), ())))))))) := (FnD.eq V iHeadRoot_c iHeadRoot_F (x1, ())).trans (by kernel_rfl)
theorem iHeadRoot_k : CallsOk Tryz.prog gls gvs 98 iHeadRoot_g := FnD.ok (F := iHeadRoot_F) (cs := iHeadRoot_c) V_ok (kC iHeadOk_k (kC iVarText_k (kC iRootOf_k kN))) Tryz.func98 (by decide) (by kernel_rfl)
-- impl.Hex
noncomputable def iHex_F : FnD := { f := 97, fn := Tryz.f97, ps := [pa .str], rs := [rt .str, rt .bool], cuts := [(6, [.val 0 .str .sh, .val 4 .str .sh, .val 5 (.sl (.int .u8)) (.own 0 .sh), .val 6 (.int .i64) .sh])] }
noncomputable def iHex_c : List (Nat × Sig) := []
noncomputable def iHex_d : ByteArray × Unit → Option ((ByteArray × Bool × Unit) × Unit) := iHex_F.d V iHex_c
noncomputable abbrev iHex_g : Sig := iHex_F.t.sig iHex_d
noncomputable def iHex_D6 : ByteArray × ByteArray × (List Int) × Int × Unit → Option ((ByteArray × Bool × Unit) × Unit) := iHex_F.D V iHex_c 6
theorem iHex_b (x1 : ByteArray) : iHex_d (x1, ()) = cnd (igt (ssz x1) (20000 : Int)) (some (zL21Cur, ())) (cnd (both (inb2 (0 : Int) (0 : Int) (imul .i64 (2 : Int) (ssz x1))) (fits (imul .i64 (2 : Int) (ssz x1)) 1)) (iHex_D6 (x1, ((bs [48, 49, 50, 51, 52, 53, 54, 55, 56, 57, 97, 98, 99, 100, 101, 102]), ((rep (0 : Int) (0 : Int)), ((0 : Int), ()))))) none) := (FnD.eq V iHex_c iHex_F (x1, ())).trans (by kernel_rfl)
theorem iHex_q6 (x1 : ByteArray) (x2 : ByteArray) (x3 : (List Int)) (x4 : Int) : iHex_D6 (x1, (x2, (x3, (x4, ())))) = cnd (ilt x4 (ssz x1)) (cnd (inb x4 (ssz x1)) (cnd (nn (4 : Int)) (cnd (inb (ishr .u8 (sat x1 x4) (4 : Int)) (ssz x2)) (cnd (inb x4 (ssz x1)) (cnd (inb (iand .u8 (sat x1 x4) (15 : Int)) (ssz x2)) (cnd (fits ((len x3) + (len ((sat x2 (ishr .u8 (sat x1 x4) (4 : Int))) :: ((sat x2 (iand .u8 (sat x1 x4) (15 : Int))) :: ([] : List Int))))) 1) (iHex_D6 (x1, (x2, ((app x3 ((sat x2 (ishr .u8 (sat x1 x4) (4 : Int))) :: ((sat x2 (iand .u8 (sat x1 x4) (15 : Int))) :: ([] : List Int)))), ((iadd .i64 x4 (1 : Int)), ()))))) none) none) none) none) none) none) (some (((sof x3), (true, ())), ())) := (FnD.eqC V iHex_c iHex_F 6 (x1, (x2, (x3, (x4, ()))))).trans (by kernel_rfl)
theorem iHex_k : CallsOk Tryz.prog gls gvs 97 iHex_g := FnD.ok (F := iHex_F) (cs := iHex_c) V_ok kN Tryz.func97 (by decide) (by kernel_rfl)
-- impl.ShowClient
noncomputable def iShowClient_F : FnD := { f := 42, fn := Tryz.f42, ps := [pa TClient], rs := [rt .str], joins := [5], cuts := [(5, [.val 3 .str .sh, .val 5 .str .sh, .box 1 TClient .sh, .ptr 1 1 0])] }
noncomputable def iShowClient_c : List (Nat × Sig) := [(98, iHeadRoot_g), (97, iHex_g), (41, iDecimal_g)]
noncomputable def iShowClient_d : tClient × Unit → Option ((ByteArray × Unit) × Unit) := iShowClient_F.d V iShowClient_c
noncomputable abbrev iShowClient_g : Sig := iShowClient_F.t.sig iShowClient_d
noncomputable def iShowClient_D5 : ByteArray × ByteArray × tClient × Unit → Option ((ByteArray × Unit) × Unit) := iShowClient_F.D V iShowClient_c 5
theorem iShowClient_b (x1 : tClient) : iShowClient_d (x1, ()) = bnd (iHeadRoot_d (x1.1, ())) (fun r1 => (bnd (iHex_d (r1.1.1, ())) (fun r2 => (cnd x1.2.2.2.1 (iShowClient_D5 (r2.1.1, ((bs [110, 101, 120, 116]), (x1, ())))) (iShowClient_D5 (r2.1.1, ((bs [45]), (x1, ())))))))) := (FnD.eq V iShowClient_c iShowClient_F (x1, ())).trans (by kernel_rfl)
theorem iShowClient_q5 (x1 : ByteArray) (x2 : ByteArray) (x3 : tClient) : iShowClient_D5 (x1, (x2, (x3, ()))) = bnd (iDecimal_d ((imax x3.1.1 (0 : Int)), ())) (fun r3 => (cnd (fits ((ssz (bs [102, 105, 110, 97, 108, 32])) + (ssz r3.1.1)) 1) (cnd (fits ((ssz (scat (bs [102, 105, 110, 97, 108, 32]) r3.1.1)) + (ssz (bs [32]))) 1) (cnd (inb2 (0 : Int) (imin (8 : Int) (ssz x1)) (ssz x1)) (cnd (fits ((ssz (scat (scat (bs [102, 105, 110, 97, 108, 32]) r3.1.1) (bs [32]))) + (ssz (ssub x1 (0 : Int) (imin (8 : Int) (ssz x1))))) 1) (cnd (fits ((ssz (scat (scat (scat (bs [102, 105, 110, 97, 108, 32]) r3.1.1) (bs [32])) (ssub x1 (0 : Int) (imin (8 : Int) (ssz x1))))) + (ssz (bs [32]))) 1) (cnd (fits ((ssz (scat (scat (scat (scat (bs [102, 105, 110, 97, 108, 32]) r3.1.1) (bs [32])) (ssub x1 (0 : Int) (imin (8 : Int) (ssz x1)))) (bs [32]))) + (ssz x2)) 1) (cnd (fits ((ssz (scat (scat (scat (scat (scat (bs [102, 105, 110, 97, 108, 32]) r3.1.1) (bs [32])) (ssub x1 (0 : Int) (imin (8 : Int) (ssz x1)))) (bs [32])) x2)) + (ssz (bs [10]))) 1) (some (((scat (scat (scat (scat (scat (scat (bs [102, 105, 110, 97, 108, 32]) r3.1.1) (bs [32])) (ssub x1 (0 : Int) (imin (8 : Int) (ssz x1)))) (bs [32])) x2) (bs [10])), ()), ())) none) none) none) none) none) none) none)) := (FnD.eqC V iShowClient_c iShowClient_F 5 (x1, (x2, (x3, ())))).trans (by kernel_rfl)
theorem iShowClient_k : CallsOk Tryz.prog gls gvs 42 iShowClient_g := FnD.ok (F := iShowClient_F) (cs := iShowClient_c) V_ok (kC iHeadRoot_k (kC iHex_k (kC iDecimal_k kN))) Tryz.func42 (by decide) (by kernel_rfl)
-- impl.ShowBridge
noncomputable def iShowBridge_F : FnD := { f := 12, fn := Tryz.f12, ps := [pa TBridge], rs := [rt .str] }
noncomputable def iShowBridge_c : List (Nat × Sig) := [(40, iReadJournal_g), (41, iDecimal_g), (42, iShowClient_g)]
noncomputable def iShowBridge_d : tBridge × Unit → Option ((ByteArray × Unit) × Unit) := iShowBridge_F.d V iShowBridge_c
noncomputable abbrev iShowBridge_g : Sig := iShowBridge_F.t.sig iShowBridge_d
theorem iShowBridge_b (x1 : tBridge) : iShowBridge_d (x1, ()) = bnd (iReadJournal_d (x1.2.2.1, ())) (fun r1 => (bnd (iDecimal_d ((len x1.2.2.2.2.1), ())) (fun r2 => (cnd (fits ((ssz (bs [113, 117, 101, 117, 101, 32])) + (ssz r2.1.1)) 1) (cnd (fits ((ssz (scat (bs [113, 117, 101, 117, 101, 32]) r2.1.1)) + (ssz (bs [32, 106, 111, 117, 114, 110, 97, 108, 32]))) 1) (bnd (iDecimal_d ((len r1.1.1), ())) (fun r3 => (cnd (fits ((ssz (scat (scat (bs [113, 117, 101, 117, 101, 32]) r2.1.1) (bs [32, 106, 111, 117, 114, 110, 97, 108, 32]))) + (ssz r3.1.1)) 1) (bnd (iShowClient_d (x1.2.1, ())) (fun r4 => (cnd (fits ((ssz r4.1.1) + (ssz (scat (scat (scat (bs [113, 117, 101, 117, 101, 32]) r2.1.1) (bs [32, 106, 111, 117, 114, 110, 97, 108, 32])) r3.1.1))) 1) (cnd (fits ((ssz (scat r4.1.1 (scat (scat (scat (bs [113, 117, 101, 117, 101, 32]) r2.1.1) (bs [32, 106, 111, 117, 114, 110, 97, 108, 32])) r3.1.1))) + (ssz (bs [32, 110, 111, 119, 32]))) 1) (bnd (iDecimal_d ((imax x1.2.2.2.2.2.1 (0 : Int)), ())) (fun r5 => (cnd (fits ((ssz (scat (scat r4.1.1 (scat (scat (scat (bs [113, 117, 101, 117, 101, 32]) r2.1.1) (bs [32, 106, 111, 117, 114, 110, 97, 108, 32])) r3.1.1)) (bs [32, 110, 111, 119, 32]))) + (ssz r5.1.1)) 1) (cnd (fits ((ssz (scat (scat (scat r4.1.1 (scat (scat (scat (bs [113, 117, 101, 117, 101, 32]) r2.1.1) (bs [32, 106, 111, 117, 114, 110, 97, 108, 32])) r3.1.1)) (bs [32, 110, 111, 119, 32])) r5.1.1)) + (ssz (bs [10]))) 1) (some (((scat (scat (scat (scat r4.1.1 (scat (scat (scat (bs [113, 117, 101, 117, 101, 32]) r2.1.1) (bs [32, 106, 111, 117, 114, 110, 97, 108, 32])) r3.1.1)) (bs [32, 110, 111, 119, 32])) r5.1.1) (bs [10])), ()), ())) none) none))) none) none))) none))) none) none)))) := (FnD.eq V iShowBridge_c iShowBridge_F (x1, ())).trans (by kernel_rfl)
theorem iShowBridge_k : CallsOk Tryz.prog gls gvs 12 iShowBridge_g := FnD.ok (F := iShowBridge_F) (cs := iShowBridge_c) V_ok (kC iReadJournal_k (kC iDecimal_k (kC iShowClient_k kN))) Tryz.func12 (by decide) (by kernel_rfl)
-- laws.eqHead
noncomputable def wEqHead_F : FnD := { f := 56, fn := Tryz.f56, ps := [pa THead, pa THead], rs := [rt .bool] }
noncomputable def wEqHead_c : List (Nat × Sig) := []
noncomputable def wEqHead_d : tHead × tHead × Unit → Option ((Bool × Unit) × Unit) := wEqHead_F.d V wEqHead_c
noncomputable abbrev wEqHead_g : Sig := wEqHead_F.t.sig wEqHead_d
theorem wEqHead_b (x1 : tHead) (x2 : tHead) : wEqHead_d (x1, (x2, ())) = cnd (ine x1.1 x2.1) (some ((false, ()), ())) (cnd (sne x1.2.1 x2.2.1) (some ((false, ()), ())) (cnd (sne x1.2.2.1 x2.2.2.1) (some ((false, ()), ())) (cnd (sne x1.2.2.2.1 x2.2.2.2.1) (some ((false, ()), ())) (some ((true, ()), ()))))) := (FnD.eq V wEqHead_c wEqHead_F (x1, (x2, ()))).trans (by kernel_rfl)
theorem wEqHead_k : CallsOk Tryz.prog gls gvs 56 wEqHead_g := FnD.ok (F := wEqHead_F) (cs := wEqHead_c) V_ok kN Tryz.func56 (by decide) (by kernel_rfl)
-- laws.eqPoint
noncomputable def wEqPoint_F : FnD := { f := 129, fn := Tryz.f129, ps := [pa TPoint, pa TPoint], rs := [rt .bool] }
noncomputable def wEqPoint_c : List (Nat × Sig) := []
noncomputable def wEqPoint_d : tPoint × tPoint × Unit → Option ((Bool × Unit) × Unit) := wEqPoint_F.d V wEqPoint_c
noncomputable abbrev wEqPoint_g : Sig := wEqPoint_F.t.sig wEqPoint_d
theorem wEqPoint_b (x1 : tPoint) (x2 : tPoint) : wEqPoint_d (x1, (x2, ())) = cnd (ine x1.1 x2.1) (some ((false, ()), ())) (cnd (ine x1.2.1 x2.2.1) (some ((false, ()), ())) (cnd (bneB x1.2.2.1 x2.2.2.1) (some ((false, ()), ())) (some ((true, ()), ())))) := (FnD.eq V wEqPoint_c wEqPoint_F (x1, (x2, ()))).trans (by kernel_rfl)
theorem wEqPoint_k : CallsOk Tryz.prog gls gvs 129 wEqPoint_g := FnD.ok (F := wEqPoint_F) (cs := wEqPoint_c) V_ok kN Tryz.func129 (by decide) (by kernel_rfl)
-- laws.eqPointS
noncomputable def wEqPointS_F : FnD := { f := 128, fn := Tryz.f128, ps := [pa (.sl TPoint), pa (.sl TPoint)], rs := [rt .bool], cuts := [(4, [.val 0 (.sl TPoint) .sh, .val 1 (.sl TPoint) .sh, .val 5 (.int .i64) .sh])] }
noncomputable def wEqPointS_c : List (Nat × Sig) := [(129, wEqPoint_g)]
noncomputable def wEqPointS_d : (List tPoint) × (List tPoint) × Unit → Option ((Bool × Unit) × Unit) := wEqPointS_F.d V wEqPointS_c
noncomputable abbrev wEqPointS_g : Sig := wEqPointS_F.t.sig wEqPointS_d
noncomputable def wEqPointS_D4 : (List tPoint) × (List tPoint) × Int × Unit → Option ((Bool × Unit) × Unit) := wEqPointS_F.D V wEqPointS_c 4
theorem wEqPointS_b (x1 : (List tPoint)) (x2 : (List tPoint)) : wEqPointS_d (x1, (x2, ())) = cnd (ine (len x1) (len x2)) (some ((false, ()), ())) (wEqPointS_D4 (x1, (x2, ((0 : Int), ())))) := (FnD.eq V wEqPointS_c wEqPointS_F (x1, (x2, ()))).trans (by kernel_rfl)
theorem wEqPointS_q4 (x1 : (List tPoint)) (x2 : (List tPoint)) (x3 : Int) : wEqPointS_D4 (x1, (x2, (x3, ()))) = cnd (ilt x3 (len x1)) (cnd (inb x3 (len x1)) (cnd (inb x3 (len x2)) (bnd (wEqPoint_d ((rd zPoint x1 x3), ((rd zPoint x2 x3), ()))) (fun r3 => (cnd (bnot r3.1.1) (some ((false, ()), ())) (wEqPointS_D4 (x1, (x2, ((iadd .i64 x3 (1 : Int)), ()))))))) none) none) (some ((true, ()), ())) := (FnD.eqC V wEqPointS_c wEqPointS_F 4 (x1, (x2, (x3, ())))).trans (by kernel_rfl)
theorem wEqPointS_k : CallsOk Tryz.prog gls gvs 128 wEqPointS_g := FnD.ok (F := wEqPointS_F) (cs := wEqPointS_c) V_ok (kC wEqPoint_k kN) Tryz.func128 (by decide) (by kernel_rfl)
-- laws.eqCommittee
noncomputable def wEqCommittee_F : FnD := { f := 57, fn := Tryz.f57, ps := [pa TCommittee, pa TCommittee], rs := [rt .bool] }
noncomputable def wEqCommittee_c : List (Nat × Sig) := [(128, wEqPointS_g)]
noncomputable def wEqCommittee_d : tCommittee × tCommittee × Unit → Option ((Bool × Unit) × Unit) := wEqCommittee_F.d V wEqCommittee_c
noncomputable abbrev wEqCommittee_g : Sig := wEqCommittee_F.t.sig wEqCommittee_d
theorem wEqCommittee_b (x1 : tCommittee) (x2 : tCommittee) : wEqCommittee_d (x1, (x2, ())) = bnd (wEqPointS_d (x1.1, (x2.1, ()))) (fun r2 => (cnd (bnot r2.1.1) (some ((false, ()), ())) (some ((true, ()), ())))) := (FnD.eq V wEqCommittee_c wEqCommittee_F (x1, (x2, ()))).trans (by kernel_rfl)
theorem wEqCommittee_k : CallsOk Tryz.prog gls gvs 57 wEqCommittee_g := FnD.ok (F := wEqCommittee_F) (cs := wEqCommittee_c) V_ok (kC wEqPointS_k kN) Tryz.func57 (by decide) (by kernel_rfl)
-- laws.eqKeys
noncomputable def wEqKeys_F : FnD := { f := 58, fn := Tryz.f58, ps := [pa TKeys, pa TKeys], rs := [rt .bool] }
noncomputable def wEqKeys_c : List (Nat × Sig) := [(129, wEqPoint_g), (128, wEqPointS_g)]
noncomputable def wEqKeys_d : tKeys × tKeys × Unit → Option ((Bool × Unit) × Unit) := wEqKeys_F.d V wEqKeys_c
noncomputable abbrev wEqKeys_g : Sig := wEqKeys_F.t.sig wEqKeys_d
theorem wEqKeys_b (x1 : tKeys) (x2 : tKeys) : wEqKeys_d (x1, (x2, ())) = bnd (wEqPoint_d (x1.1, (x2.1, ()))) (fun r2 => (cnd (bnot r2.1.1) (some ((false, ()), ())) (bnd (wEqPoint_d (x1.2.1, (x2.2.1, ()))) (fun r3 => (cnd (bnot r3.1.1) (some ((false, ()), ())) (bnd (wEqPoint_d (x1.2.2.1, (x2.2.2.1, ()))) (fun r4 => (cnd (bnot r4.1.1) (some ((false, ()), ())) (bnd (wEqPoint_d (x1.2.2.2.1, (x2.2.2.2.1, ()))) (fun r5 => (cnd (bnot r5.1.1) (some ((false, ()), ())) (bnd (wEqPointS_d (x1.2.2.2.2.1, (x2.2.2.2.2.1, ()))) (fun r6 => (cnd (bnot r6.1.1) (some ((false, ()), ())) (some ((true, ()), ())))))))))))))))) := (FnD.eq V wEqKeys_c wEqKeys_F (x1, (x2, ()))).trans (by kernel_rfl)
theorem wEqKeys_k : CallsOk Tryz.prog gls gvs 58 wEqKeys_g := FnD.ok (F := wEqKeys_F) (cs := wEqKeys_c) V_ok (kC wEqPoint_k (kC wEqPointS_k kN)) Tryz.func58 (by decide) (by kernel_rfl)
-- laws.eqClient
noncomputable def wEqClient_F : FnD := { f := 18, fn := Tryz.f18, ps := [pa TClient, pa TClient], rs := [rt .bool] }
noncomputable def wEqClient_c : List (Nat × Sig) := [(56, wEqHead_g), (57, wEqCommittee_g), (58, wEqKeys_g)]
noncomputable def wEqClient_d : tClient × tClient × Unit → Option ((Bool × Unit) × Unit) := wEqClient_F.d V wEqClient_c
noncomputable abbrev wEqClient_g : Sig := wEqClient_F.t.sig wEqClient_d
theorem wEqClient_b (x1 : tClient) (x2 : tClient) : wEqClient_d (x1, (x2, ())) = bnd (wEqHead_d (x1.1, (x2.1, ()))) (fun r2 => (cnd (bnot r2.1.1) (some ((false, ()), ())) (bnd (wEqCommittee_d (x1.2.1, (x2.2.1, ()))) (fun r3 => (cnd (bnot r3.1.1) (some ((false, ()), ())) (bnd (wEqCommittee_d (x1.2.2.1, (x2.2.2.1, ()))) (fun r4 => (cnd (bnot r4.1.1) (some ((false, ()), ())) (cnd (bneB x1.2.2.2.1 x2.2.2.2.1) (some ((false, ()), ())) (bnd (wEqKeys_d (x1.2.2.2.2.1, (x2.2.2.2.2.1, ()))) (fun r5 => (cnd (bnot r5.1.1) (some ((false, ()), ())) (some ((true, ()), ())))))))))))))) := (FnD.eq V wEqClient_c wEqClient_F (x1, (x2, ()))).trans (by kernel_rfl)
theorem wEqClient_k : CallsOk Tryz.prog gls gvs 18 wEqClient_g := FnD.ok (F := wEqClient_F) (cs := wEqClient_c) V_ok (kC wEqHead_k (kC wEqCommittee_k (kC wEqKeys_k kN))) Tryz.func18 (by decide) (by kernel_rfl)
-- laws.eqStringS
noncomputable def wEqStringS_F : FnD := { f := 43, fn := Tryz.f43, ps := [pa (.sl .str), pa (.sl .str)], rs := [rt .bool], cuts := [(4, [.val 0 (.sl .str) .sh, .val 1 (.sl .str) .sh, .val 5 (.int .i64) .sh])] }
noncomputable def wEqStringS_c : List (Nat × Sig) := []
noncomputable def wEqStringS_d : (List ByteArray) × (List ByteArray) × Unit → Option ((Bool × Unit) × Unit) := wEqStringS_F.d V wEqStringS_c
noncomputable abbrev wEqStringS_g : Sig := wEqStringS_F.t.sig wEqStringS_d
noncomputable def wEqStringS_D4 : (List ByteArray) × (List ByteArray) × Int × Unit → Option ((Bool × Unit) × Unit) := wEqStringS_F.D V wEqStringS_c 4
theorem wEqStringS_b (x1 : (List ByteArray)) (x2 : (List ByteArray)) : wEqStringS_d (x1, (x2, ())) = cnd (ine (len x1) (len x2)) (some ((false, ()), ())) (wEqStringS_D4 (x1, (x2, ((0 : Int), ())))) := (FnD.eq V wEqStringS_c wEqStringS_F (x1, (x2, ()))).trans (by kernel_rfl)
theorem wEqStringS_q4 (x1 : (List ByteArray)) (x2 : (List ByteArray)) (x3 : Int) : wEqStringS_D4 (x1, (x2, (x3, ()))) = cnd (ilt x3 (len x1)) (cnd (inb x3 (len x1)) (cnd (inb x3 (len x2)) (cnd (sne (rd (bs []) x1 x3) (rd (bs []) x2 x3)) (some ((false, ()), ())) (wEqStringS_D4 (x1, (x2, ((iadd .i64 x3 (1 : Int)), ()))))) none) none) (some ((true, ()), ())) := (FnD.eqC V wEqStringS_c wEqStringS_F 4 (x1, (x2, (x3, ())))).trans (by kernel_rfl)
theorem wEqStringS_k : CallsOk Tryz.prog gls gvs 43 wEqStringS_g := FnD.ok (F := wEqStringS_F) (cs := wEqStringS_c) V_ok kN Tryz.func43 (by decide) (by kernel_rfl)
-- laws.eqBridge
noncomputable def wEqBridge_F : FnD := { f := 13, fn := Tryz.f13, ps := [pa TBridge, pa TBridge], rs := [rt .bool] }
noncomputable def wEqBridge_c : List (Nat × Sig) := [(18, wEqClient_g), (43, wEqStringS_g)]
noncomputable def wEqBridge_d : tBridge × tBridge × Unit → Option ((Bool × Unit) × Unit) := wEqBridge_F.d V wEqBridge_c
noncomputable abbrev wEqBridge_g : Sig := wEqBridge_F.t.sig wEqBridge_d
theorem wEqBridge_b (x1 : tBridge) (x2 : tBridge) : wEqBridge_d (x1, (x2, ())) = bnd (wEqClient_d (x1.1, (x2.1, ()))) (fun r2 => (cnd (bnot r2.1.1) (some ((false, ()), ())) (bnd (wEqClient_d (x1.2.1, (x2.2.1, ()))) (fun r3 => (cnd (bnot r3.1.1) (some ((false, ()), ())) (cnd (sne x1.2.2.1 x2.2.2.1) (some ((false, ()), ())) (cnd (ine x1.2.2.2.1 x2.2.2.2.1) (some ((false, ()), ())) (bnd (wEqStringS_d (x1.2.2.2.2.1, (x2.2.2.2.2.1, ()))) (fun r4 => (cnd (bnot r4.1.1) (some ((false, ()), ())) (cnd (ine x1.2.2.2.2.2.1 x2.2.2.2.2.2.1) (some ((false, ()), ())) (some ((true, ()), ()))))))))))))) := (FnD.eq V wEqBridge_c wEqBridge_F (x1, (x2, ()))).trans (by kernel_rfl)
theorem wEqBridge_k : CallsOk Tryz.prog gls gvs 13 wEqBridge_g := FnD.ok (F := wEqBridge_F) (cs := wEqBridge_c) V_ok (kC wEqClient_k (kC wEqStringS_k kN)) Tryz.func13 (by decide) (by kernel_rfl)
-- laws.FnExactShowBridge
noncomputable def wFnExactShowBridge_F : FnD := { f := 3, fn := Tryz.f3, ps := [pa TBridge], rs := [rt .bool] }
noncomputable def wFnExactShowBridge_c : List (Nat × Sig) := [(9, wSzBridge_g), (11, wToBridge_g), (10, sShowBridge_g), (12, iShowBridge_g), (13, wEqBridge_g)]
noncomputable def wFnExactShowBridge_d : tBridge × Unit → Option ((Bool × Unit) × Unit) := wFnExactShowBridge_F.d V wFnExactShowBridge_c
noncomputable abbrev wFnExactShowBridge_g : Sig := wFnExactShowBridge_F.t.sig wFnExactShowBridge_d
theorem wFnExactShowBridge_b (x1 : tBridge) : wFnExactShowBridge_d (x1, ()) = bnd (wSzBridge_d (x1, ((1048576 : Int), ()))) (fun r1 => (cnd (ilt r1.1.1 (0 : Int)) (some ((true, ()), ())) (bnd (wToBridge_d (x1, ())) (fun r2 => (bnd (sShowBridge_d (r2.1.1, ())) (fun r3 => (bnd (wToBridge_d (x1, ())) (fun r4 => (bnd (iShowBridge_d (r4.1.1, ())) (fun r5 => (cnd (sne r5.1.1 r3.1.1) (some ((false, ()), ())) (bnd (wToBridge_d (x1, ())) (fun r6 => (bnd (wEqBridge_d (r4.1.1, (r6.1.1, ()))) (fun r7 => (cnd (bnot r7.1.1) (some ((false, ()), ())) (some ((true, ()), ())))))))))))))))))) := (FnD.eq V wFnExactShowBridge_c wFnExactShowBridge_F (x1, ())).trans (by kernel_rfl)
theorem wFnExactShowBridge_k : CallsOk Tryz.prog gls gvs 3 wFnExactShowBridge_g := FnD.ok (F := wFnExactShowBridge_F) (cs := wFnExactShowBridge_c) V_ok (kC wSzBridge_k (kC wToBridge_k (kC sShowBridge_k (kC iShowBridge_k (kC wEqBridge_k kN))))) Tryz.func3 (by decide) (by kernel_rfl)
end Go.Proofs.YtonggnnjobapcaaGreatDoor
