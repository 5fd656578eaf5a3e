/- What the functions come to: printed by program. Of no condition. -/
import Derived.Test.YtngnpgnlbkgofaaDoorX0
set_option linter.unusedVariables false
set_option maxRecDepth 100000
namespace Go.Proofs.YtngnpgnlbkgofaaDoor
open Go.TV
-- laws.szHead
noncomputable def wSzHead_F : FnD := { f := 21, fn := Tryd.f21, ps := [pa THead, pa (.int .i64)], rs := [rt (.int .i64)] }
noncomputable def wSzHead_c : List (Nat × Sig) := []
noncomputable def wSzHead_d : tHead × Int × Unit → Option ((Int × Unit) × Unit) := wSzHead_F.d V wSzHead_c
noncomputable abbrev wSzHead_g : Sig := wSzHead_F.t.sig wSzHead_d
theorem wSzHead_b (x1 : tHead) (x2 : Int) : wSzHead_d (x1, (x2, ())) = cnd (ilt (isub .i64 x2 (ssz x1.2.1)) (0 : Int)) (some (((-1 : Int), ()), ())) (cnd (ilt (isub .i64 (isub .i64 x2 (ssz x1.2.1)) (ssz x1.2.2.1)) (0 : Int)) (some (((-1 : Int), ()), ())) (cnd (ilt (isub .i64 (isub .i64 (isub .i64 x2 (ssz x1.2.1)) (ssz x1.2.2.1)) (ssz x1.2.2.2.1)) (0 : Int)) (some (((-1 : Int), ()), ())) (some (((isub .i64 (isub .i64 (isub .i64 x2 (ssz x1.2.1)) (ssz x1.2.2.1)) (ssz x1.2.2.2.1)), ()), ())))) := (FnD.eq V wSzHead_c wSzHead_F (x1, (x2, ()))).trans (by kernel_rfl)
theorem wSzHead_k : CallsOk Tryd.prog gls gvs 21 wSzHead_g := FnD.ok (F := wSzHead_F) (cs := wSzHead_c) V_ok kN Tryd.func21 (by decide) (by kernel_rfl)
-- laws.szPointS
noncomputable def wSzPointS_F : FnD := { f := 58, fn := Tryd.f58, ps := [pa (.sl TPoint), pa (.int .i64)], rs := [rt (.int .i64)] }
noncomputable def wSzPointS_c : List (Nat × Sig) := []
noncomputable def wSzPointS_d : (List tPoint) × Int × Unit → Option ((Int × Unit) × Unit) := wSzPointS_F.d V wSzPointS_c
noncomputable abbrev wSzPointS_g : Sig := wSzPointS_F.t.sig wSzPointS_d
theorem wSzPointS_b (x1 : (List tPoint)) (x2 : Int) : wSzPointS_d (x1, (x2, ())) = cnd (ilt (isub .i64 x2 (len x1)) (0 : Int)) (some (((-1 : Int), ()), ())) (some (((isub .i64 x2 (len x1)), ()), ())) := (FnD.eq V wSzPointS_c wSzPointS_F (x1, (x2, ()))).trans (by kernel_rfl)
theorem wSzPointS_k : CallsOk Tryd.prog gls gvs 58 wSzPointS_g := FnD.ok (F := wSzPointS_F) (cs := wSzPointS_c) V_ok kN Tryd.func58 (by decide) (by kernel_rfl)
-- laws.szCommittee
noncomputable def wSzCommittee_F : FnD := { f := 22, fn := Tryd.f22, ps := [pa TCommittee, pa (.int .i64)], rs := [rt (.int .i64)] }
noncomputable def wSzCommittee_c : List (Nat × Sig) := [(58, wSzPointS_g)]
noncomputable def wSzCommittee_d : tCommittee × Int × Unit → Option ((Int × Unit) × Unit) := wSzCommittee_F.d V wSzCommittee_c
noncomputable abbrev wSzCommittee_g : Sig := wSzCommittee_F.t.sig wSzCommittee_d
theorem wSzCommittee_b (x1 : tCommittee) (x2 : Int) : wSzCommittee_d (x1, (x2, ())) = bnd (wSzPointS_d (x1.1, (x2, ()))) (fun r2 => (cnd (ilt r2.1.1 (0 : Int)) (some (((-1 : Int), ()), ())) (some ((r2.1.1, ()), ())))) := (FnD.eq V wSzCommittee_c wSzCommittee_F (x1, (x2, ()))).trans (by kernel_rfl)
theorem wSzCommittee_k : CallsOk Tryd.prog gls gvs 22 wSzCommittee_g := FnD.ok (F := wSzCommittee_F) (cs := wSzCommittee_c) V_ok (kC wSzPointS_k kN) Tryd.func22 (by decide) (by kernel_rfl)
-- laws.szKeys
noncomputable def wSzKeys_F : FnD := { f := 23, fn := Tryd.f23, ps := [pa TKeys, pa (.int .i64)], rs := [rt (.int .i64)] }
noncomputable def wSzKeys_c : List (Nat × Sig) := [(58, wSzPointS_g)]
noncomputable def wSzKeys_d : tKeys × Int × Unit → Option ((Int × Unit) × Unit) := wSzKeys_F.d V wSzKeys_c
noncomputable abbrev wSzKeys_g : Sig := wSzKeys_F.t.sig wSzKeys_d
theorem wSzKeys_b (x1 : tKeys) (x2 : Int) : wSzKeys_d (x1, (x2, ())) = bnd (wSzPointS_d (x1.2.2.2.2.1, (x2, ()))) (fun r2 => (cnd (ilt r2.1.1 (0 : Int)) (some (((-1 : Int), ()), ())) (some ((r2.1.1, ()), ())))) := (FnD.eq V wSzKeys_c wSzKeys_F (x1, (x2, ()))).trans (by kernel_rfl)
theorem wSzKeys_k : CallsOk Tryd.prog gls gvs 23 wSzKeys_g := FnD.ok (F := wSzKeys_F) (cs := wSzKeys_c) V_ok (kC wSzPointS_k kN) Tryd.func23 (by decide) (by kernel_rfl)
-- laws.szClient
noncomputable def wSzClient_F : FnD := { f := 6, fn := Tryd.f6, ps := [pa TClient, pa (.int .i64)], rs := [rt (.int .i64)] }
noncomputable def wSzClient_c : List (Nat × Sig) := [(21, wSzHead_g), (22, wSzCommittee_g), (23, wSzKeys_g)]
noncomputable def wSzClient_d : tClient × Int × Unit → Option ((Int × Unit) × Unit) := wSzClient_F.d V wSzClient_c
noncomputable abbrev wSzClient_g : Sig := wSzClient_F.t.sig wSzClient_d
theorem wSzClient_b (x1 : tClient) (x2 : Int) : wSzClient_d (x1, (x2, ())) = bnd (wSzHead_d (x1.1, (x2, ()))) (fun r2 => (cnd (ilt r2.1.1 (0 : Int)) (some (((-1 : Int), ()), ())) (bnd (wSzCommittee_d (x1.2.1, (r2.1.1, ()))) (fun r3 => (cnd (ilt r3.1.1 (0 : Int)) (some (((-1 : Int), ()), ())) (bnd (wSzCommittee_d (x1.2.2.1, (r3.1.1, ()))) (fun r4 => (cnd (ilt r4.1.1 (0 : Int)) (some (((-1 : Int), ()), ())) (bnd (wSzKeys_d (x1.2.2.2.2.1, (r4.1.1, ()))) (fun r5 => (cnd (ilt r5.1.1 (0 : Int)) (some (((-1 : Int), ()), ())) (some ((r5.1.1, ()), ()))))))))))))) := (FnD.eq V wSzClient_c wSzClient_F (x1, (x2, ()))).trans (by kernel_rfl)
theorem wSzClient_k : CallsOk Tryd.prog gls gvs 6 wSzClient_g := FnD.ok (F := wSzClient_F) (cs := wSzClient_c) V_ok (kC wSzHead_k (kC wSzCommittee_k (kC wSzKeys_k kN))) Tryd.func6 (by decide) (by kernel_rfl)
-- laws.toHead
noncomputable def wToHead_F : FnD := { f := 27, fn := Tryd.f27, ps := [pa THead], rs := [rt THead] }
noncomputable def wToHead_c : List (Nat × Sig) := []
noncomputable def wToHead_d : tHead × Unit → Option ((tHead × Unit) × Unit) := wToHead_F.d V wToHead_c
noncomputable abbrev wToHead_g : Sig := wToHead_F.t.sig wToHead_d
theorem wToHead_b (x1 : tHead) : wToHead_d (x1, ()) = some (((x1.1, (x1.2.1, (x1.2.2.1, (x1.2.2.2.1, ())))), ()), ()) := (FnD.eq V wToHead_c wToHead_F (x1, ())).trans (by kernel_rfl)
theorem wToHead_k : CallsOk Tryd.prog gls gvs 27 wToHead_g := FnD.ok (F := wToHead_F) (cs := wToHead_c) V_ok kN Tryd.func27 (by decide) (by kernel_rfl)
-- laws.toPoint
noncomputable def wToPoint_F : FnD := { f := 65, fn := Tryd.f65, ps := [pa TPoint], rs := [rt TPoint] }
noncomputable def wToPoint_c : List (Nat × Sig) := []
noncomputable def wToPoint_d : tPoint × Unit → Option ((tPoint × Unit) × Unit) := wToPoint_F.d V wToPoint_c
noncomputable abbrev wToPoint_g : Sig := wToPoint_F.t.sig wToPoint_d
theorem wToPoint_b (x1 : tPoint) : wToPoint_d (x1, ()) = some (((x1.1, (x1.2.1, (x1.2.2.1, ()))), ()), ()) := (FnD.eq V wToPoint_c wToPoint_F (x1, ())).trans (by kernel_rfl)
theorem wToPoint_k : CallsOk Tryd.prog gls gvs 65 wToPoint_g := FnD.ok (F := wToPoint_F) (cs := wToPoint_c) V_ok kN Tryd.func65 (by decide) (by kernel_rfl)
-- laws.toPointS
noncomputable def wToPointS_F : FnD := { f := 64, fn := Tryd.f64, ps := [pa (.sl TPoint)], rs := [⟨(.sl TPoint), (.own 0 .sh), false⟩], cuts := [(3, [.val 0 (.sl TPoint) .sh, .val 3 (.sl TPoint) (.own 0 .sh), .val 4 (.int .i64) .sh])] }
noncomputable def wToPointS_c : List (Nat × Sig) := [(65, wToPoint_g)]
noncomputable def wToPointS_d : (List tPoint) × Unit → Option (((List tPoint) × Unit) × Unit) := wToPointS_F.d V wToPointS_c
noncomputable abbrev wToPointS_g : Sig := wToPointS_F.t.sig wToPointS_d
noncomputable def wToPointS_D3 : (List tPoint) × (List tPoint) × Int × Unit → Option (((List tPoint) × Unit) × Unit) := wToPointS_F.D V wToPointS_c 3
theorem wToPointS_b (x1 : (List tPoint)) : wToPointS_d (x1, ()) = cnd (both (inb2 (0 : Int) (len x1) (len x1)) (fits (len x1) 3)) (wToPointS_D3 (x1, ((rep (len x1) zPoint), ((0 : Int), ())))) none := (FnD.eq V wToPointS_c wToPointS_F (x1, ())).trans (by kernel_rfl)
theorem wToPointS_q3 (x1 : (List tPoint)) (x2 : (List tPoint)) (x3 : Int) : wToPointS_D3 (x1, (x2, (x3, ()))) = cnd (ilt x3 (len x1)) (cnd (inb x3 (len x1)) (bnd (wToPoint_d ((rd zPoint x1 x3), ())) (fun r3 => (cnd (inb x3 (len x2)) (wToPointS_D3 (x1, ((upd x2 x3 r3.1.1), ((iadd .i64 x3 (1 : Int)), ())))) none))) none) (some ((x2, ()), ())) := (FnD.eqC V wToPointS_c wToPointS_F 3 (x1, (x2, (x3, ())))).trans (by kernel_rfl)
theorem wToPointS_k : CallsOk Tryd.prog gls gvs 64 wToPointS_g := FnD.ok (F := wToPointS_F) (cs := wToPointS_c) V_ok (kC wToPoint_k kN) Tryd.func64 (by decide) (by kernel_rfl)
-- laws.toCommittee
noncomputable def wToCommittee_F : FnD := { f := 28, fn := Tryd.f28, ps := [pa TCommittee], rs := [⟨TCommittee, (.pr (.own 0 .sh) .sh), false⟩] }
noncomputable def wToCommittee_c : List (Nat × Sig) := [(64, wToPointS_g)]
noncomputable def wToCommittee_d : tCommittee × Unit → Option ((tCommittee × Unit) × Unit) := wToCommittee_F.d V wToCommittee_c
noncomputable abbrev wToCommittee_g : Sig := wToCommittee_F.t.sig wToCommittee_d
theorem wToCommittee_b (x1 : tCommittee) : wToCommittee_d (x1, ()) = bnd (wToPointS_d (x1.1, ())) (fun r1 => (some (((r1.1.1, ()), ()), ()))) := (FnD.eq V wToCommittee_c wToCommittee_F (x1, ())).trans (by kernel_rfl)
theorem wToCommittee_k : CallsOk Tryd.prog gls gvs 28 wToCommittee_g := FnD.ok (F := wToCommittee_F) (cs := wToCommittee_c) V_ok (kC wToPointS_k kN) Tryd.func28 (by decide) (by kernel_rfl)
-- laws.toKeys
noncomputable def wToKeys_F : FnD := { f := 29, fn := Tryd.f29, ps := [pa TKeys], rs := [⟨TKeys, (.pr .sh (.pr .sh (.pr .sh (.pr .sh (.pr (.own 0 .sh) .sh))))), false⟩] }
noncomputable def wToKeys_c : List (Nat × Sig) := [(65, wToPoint_g), (64, wToPointS_g)]
noncomputable def wToKeys_d : tKeys × Unit → Option ((tKeys × Unit) × Unit) := wToKeys_F.d V wToKeys_c
noncomputable abbrev wToKeys_g : Sig := wToKeys_F.t.sig wToKeys_d
theorem wToKeys_b (x1 : tKeys) : wToKeys_d (x1, ()) = bnd (wToPoint_d (x1.1, ())) (fun r1 => (bnd (wToPoint_d (x1.2.1, ())) (fun r2 => (bnd (wToPoint_d (x1.2.2.1, ())) (fun r3 => (bnd (wToPoint_d (x1.2.2.2.1, ())) (fun r4 => (bnd (wToPointS_d (x1.2.2.2.2.1, ())) (fun r5 => (some (((r1.1.1, (r2.1.1, (r3.1.1, (r4.1.1, (r5.1.1, ()))))), ()), ()))))))))))) := (FnD.eq V wToKeys_c wToKeys_F (x1, ())).trans (by kernel_rfl)
theorem wToKeys_k : CallsOk Tryd.prog gls gvs 29 wToKeys_g := FnD.ok (F := wToKeys_F) (cs := wToKeys_c) V_ok (kC wToPoint_k (kC wToPointS_k kN)) Tryd.func29 (by decide) (by kernel_rfl)
-- laws.toClient
noncomputable def wToClient_F : FnD := { f := 8, fn := Tryd.f8, ps := [pa TClient], rs := [⟨TClient, (.pr .sh (.pr (.pr (.own 0 .sh) .sh) (.pr (.pr (.own 0 .sh) .sh) (.pr .sh (.pr (.pr .sh (.pr .sh (.pr .sh (.pr .sh (.pr (.own 0 .sh) .sh))))) .sh))))), false⟩] }
noncomputable def wToClient_c : List (Nat × Sig) := [(27, wToHead_g), (28, wToCommittee_g), (29, wToKeys_g)]
noncomputable def wToClient_d : tClient × Unit → Option ((tClient × Unit) × Unit) := wToClient_F.d V wToClient_c
noncomputable abbrev wToClient_g : Sig := wToClient_F.t.sig wToClient_d
theorem wToClient_b (x1 : tClient) : wToClient_d (x1, ()) = bnd (wToHead_d (x1.1, ())) (fun r1 => (bnd (wToCommittee_d (x1.2.1, ())) (fun r2 => (bnd (wToCommittee_d (x1.2.2.1, ())) (fun r3 => (bnd (wToKeys_d (x1.2.2.2.2.1, ())) (fun r4 => (some (((r1.1.1, (r2.1.1, (r3.1.1, (x1.2.2.2.1, (r4.1.1, ()))))), ()), ()))))))))) := (FnD.eq V wToClient_c wToClient_F (x1, ())).trans (by kernel_rfl)
theorem wToClient_k : CallsOk Tryd.prog gls gvs 8 wToClient_g := FnD.ok (F := wToClient_F) (cs := wToClient_c) V_ok (kC wToHead_k (kC wToCommittee_k (kC wToKeys_k kN))) Tryd.func8 (by decide) (by kernel_rfl)
-- spec.l01In
noncomputable def sL01In_F : FnD := { f := 36, fn := Tryd.f36, ps := [pa (.int .i64), pa (.int .i64), pa (.int .i64)], rs := [rt .bool] }
noncomputable def sL01In_c : List (Nat × Sig) := []
noncomputable def sL01In_d : Int × Int × Int × Unit → Option ((Bool × Unit) × Unit) := sL01In_F.d V sL01In_c
noncomputable abbrev sL01In_g : Sig := sL01In_F.t.sig sL01In_d
theorem sL01In_b (x1 : Int) (x2 : Int) (x3 : Int) : sL01In_d (x1, (x2, (x3, ()))) = cnd (ige x1 x2) (some (((ile x1 x3), ()), ())) (some ((false, ()), ())) := (FnD.eq V sL01In_c sL01In_F (x1, (x2, (x3, ())))).trans (by kernel_rfl)
theorem sL01In_k : CallsOk Tryd.prog gls gvs 36 sL01In_g := FnD.ok (F := sL01In_F) (cs := sL01In_c) V_ok kN Tryd.func36 (by decide) (by kernel_rfl)
-- spec.HeadOk
noncomputable def sHeadOk_F : FnD := { f := 60, fn := Tryd.f60, ps := [pa THead], rs := [rt .bool] }
noncomputable def sHeadOk_c : List (Nat × Sig) := [(36, sL01In_g)]
noncomputable def sHeadOk_d : tHead × Unit → Option ((Bool × Unit) × Unit) := sHeadOk_F.d V sHeadOk_c
noncomputable abbrev sHeadOk_g : Sig := sHeadOk_F.t.sig sHeadOk_d
theorem sHeadOk_b (x1 : tHead) : sHeadOk_d (x1, ()) = bnd (sL01In_d (x1.1, ((0 : Int), ((10000 : Int), ())))) (fun r1 => (cnd r1.1.1 (cnd (ieq (ssz x1.2.1) (32 : Int)) (cnd (ieq (ssz x1.2.2.1) (32 : Int)) (some (((ieq (ssz x1.2.2.2.1) (32 : Int)), ()), ())) (some ((false, ()), ()))) (some ((false, ()), ()))) (some ((false, ()), ())))) := (FnD.eq V sHeadOk_c sHeadOk_F (x1, ())).trans (by kernel_rfl)
theorem sHeadOk_k : CallsOk Tryd.prog gls gvs 60 sHeadOk_g := FnD.ok (F := sHeadOk_F) (cs := sHeadOk_c) V_ok (kC sL01In_k kN) Tryd.func60 (by decide) (by kernel_rfl)
-- spec.l01Var
noncomputable def sL01Var_F : FnD := { f := 62, fn := Tryd.f62, ps := [pa (.int .i64)], rs := [rt .str], cuts := [(2, [.val 0 (.int .i64) .sh, .val 3 (.sl (.int .u8)) (.own 0 .sh)])] }
noncomputable def sL01Var_c : List (Nat × Sig) := []
noncomputable def sL01Var_d : Int × Unit → Option ((ByteArray × Unit) × Unit) := sL01Var_F.d V sL01Var_c
noncomputable abbrev sL01Var_g : Sig := sL01Var_F.t.sig sL01Var_d
noncomputable def sL01Var_D2 : Int × (List Int) × Unit → Option ((ByteArray × Unit) × Unit) := sL01Var_F.D V sL01Var_c 2
theorem sL01Var_b (x1 : Int) : sL01Var_d (x1, ()) = sL01Var_D2 (x1, (([] : List Int), ())) := (FnD.eq V sL01Var_c sL01Var_F (x1, ())).trans (by kernel_rfl)
theorem sL01Var_q2 (x1 : Int) (x2 : (List Int)) : sL01Var_D2 (x1, (x2, ())) = cnd (igt x1 (127 : Int)) (cnd (nz (128 : Int)) (cnd (fits ((len x2) + (len ((iconv .u8 (iadd .i64 (irem x1 (128 : Int)) (128 : Int))) :: ([] : List Int)))) 1) (cnd (nz (128 : Int)) (sL01Var_D2 ((iquo .i64 x1 (128 : Int)), ((app x2 ((iconv .u8 (iadd .i64 (irem x1 (128 : Int)) (128 : Int))) :: ([] : List Int))), ()))) none) none) none) (cnd (fits ((len x2) + (len ((iconv .u8 x1) :: ([] : List Int)))) 1) (some (((sof (app x2 ((iconv .u8 x1) :: ([] : List Int)))), ()), ())) none) := (FnD.eqC V sL01Var_c sL01Var_F 2 (x1, (x2, ()))).trans (by kernel_rfl)
theorem sL01Var_k : CallsOk Tryd.prog gls gvs 62 sL01Var_g := FnD.ok (F := sL01Var_F) (cs := sL01Var_c) V_ok kN Tryd.func62 (by decide) (by kernel_rfl)
-- spec.KeccakPad
noncomputable def sKeccakPad_F : FnD := { f := 74, fn := Tryd.f74, ps := [pa .str], rs := [rt .str], cuts := [(3, [.val 3 (.sl (.int .u8)) (.own 0 .sh)])] }
noncomputable def sKeccakPad_c : List (Nat × Sig) := []
noncomputable def sKeccakPad_d : ByteArray × Unit → Option ((ByteArray × Unit) × Unit) := sKeccakPad_F.d V sKeccakPad_c
noncomputable abbrev sKeccakPad_g : Sig := sKeccakPad_F.t.sig sKeccakPad_d
noncomputable def sKeccakPad_D3 : (List Int) × Unit → Option ((ByteArray × Unit) × Unit) := sKeccakPad_F.D V sKeccakPad_c 3
theorem sKeccakPad_b (x1 : ByteArray) : sKeccakPad_d (x1, ()) = cnd (fits ((len (sbytes x1)) + (len ((1 : Int) :: ([] : List Int)))) 1) (sKeccakPad_D3 ((app (sbytes x1) ((1 : Int) :: ([] : List Int))), ())) none := (FnD.eq V sKeccakPad_c sKeccakPad_F (x1, ())).trans (by kernel_rfl)
theorem sKeccakPad_q3 (x1 : (List Int)) : sKeccakPad_D3 (x1, ()) = cnd (nz (136 : Int)) (cnd (ine (irem (len x1) (136 : Int)) (0 : Int)) (cnd (fits ((len x1) + (len ((0 : Int) :: ([] : List Int)))) 1) (sKeccakPad_D3 ((app x1 ((0 : Int) :: ([] : List Int))), ())) none) (cnd (inb (isub .i64 (len x1) (1 : Int)) (len x1)) (cnd (inb (isub .i64 (len x1) (1 : Int)) (len x1)) (some (((sof (upd x1 (isub .i64 (len x1) (1 : Int)) (ior .u8 (rd (0 : Int) x1 (isub .i64 (len x1) (1 : Int))) (128 : Int)))), ()), ())) none) none)) none := (FnD.eqC V sKeccakPad_c sKeccakPad_F 3 (x1, ())).trans (by kernel_rfl)
theorem sKeccakPad_k : CallsOk Tryd.prog gls gvs 74 sKeccakPad_g := FnD.ok (F := sKeccakPad_F) (cs := sKeccakPad_c) V_ok kN Tryd.func74 (by decide) (by kernel_rfl)
-- spec.l03Word
noncomputable def sL03Word_F : FnD := { f := 75, fn := Tryd.f75, ps := [pa .str, pa (.int .i64)], rs := [rt (.int .u64)], cuts := [(3, [.val 0 .str .sh, .val 1 (.int .i64) .sh, .val 5 (.int .u64) .sh, .val 6 (.int .i64) .sh])] }
noncomputable def sL03Word_c : List (Nat × Sig) := []
noncomputable def sL03Word_d : ByteArray × Int × Unit → Option ((Int × Unit) × Unit) := sL03Word_F.d V sL03Word_c
noncomputable abbrev sL03Word_g : Sig := sL03Word_F.t.sig sL03Word_d
noncomputable def sL03Word_D3 : ByteArray × Int × Int × Int × Unit → Option ((Int × Unit) × Unit) := sL03Word_F.D V sL03Word_c 3
theorem sL03Word_b (x1 : ByteArray) (x2 : Int) : sL03Word_d (x1, (x2, ())) = sL03Word_D3 (x1, (x2, ((0 : Int), ((7 : Int), ())))) := (FnD.eq V sL03Word_c sL03Word_F (x1, (x2, ()))).trans (by kernel_rfl)
theorem sL03Word_q3 (x1 : ByteArray) (x2 : Int) (x3 : Int) (x4 : Int) : sL03Word_D3 (x1, (x2, (x3, (x4, ())))) = cnd (ige x4 (0 : Int)) (cnd (nn (8 : Int)) (cnd (inb (iadd .i64 x2 x4) (ssz x1)) (sL03Word_D3 (x1, (x2, ((ior .u64 (ishl .u64 x3 (8 : Int)) (iconv .u64 (sat x1 (iadd .i64 x2 x4)))), ((isub .i64 x4 (1 : Int)), ()))))) none) none) (some ((x3, ()), ())) := (FnD.eqC V sL03Word_c sL03Word_F 3 (x1, (x2, (x3, (x4, ()))))).trans (by kernel_rfl)
theorem sL03Word_k : CallsOk Tryd.prog gls gvs 75 sL03Word_g := FnD.ok (F := sL03Word_F) (cs := sL03Word_c) V_ok kN Tryd.func75 (by decide) (by kernel_rfl)
-- spec.l03Offsets
noncomputable def sL03Offsets_F : FnD := { f := 101, fn := Tryd.f101, ps := [], rs := [rt (.arr 25 (.int .u64))] }
noncomputable def sL03Offsets_c : List (Nat × Sig) := []
noncomputable def sL03Offsets_d : Unit → Option (((List Int) × Unit) × Unit) := sL03Offsets_F.d V sL03Offsets_c
noncomputable abbrev sL03Offsets_g : Sig := sL03Offsets_F.t.sig sL03Offsets_d
theorem sL03Offsets_b : sL03Offsets_d () = some ((((0 : Int) :: ((1 : Int) :: ((62 : Int) :: ((28 : Int) :: ((27 : Int) :: ((36 : Int) :: ((44 : Int) :: ((6 : Int) :: ((55 : Int) :: ((20 : Int) :: ((3 : Int) :: ((10 : Int) :: ((43 : Int) :: ((25 : Int) :: ((39 : Int) :: ((41 : Int) :: ((45 : Int) :: ((15 : Int) :: ((21 : Int) :: ((8 : Int) :: ((18 : Int) :: ((2 : Int) :: ((61 : Int) :: ((56 : Int) :: ((14 : Int) :: ([] : List Int)))))))))))))))))))))))))), ()), ()) := (FnD.eq V sL03Offsets_c sL03Offsets_F ()).trans (by kernel_rfl)
theorem sL03Offsets_k : CallsOk Tryd.prog gls gvs 101 sL03Offsets_g := FnD.ok (F := sL03Offsets_F) (cs := sL03Offsets_c) V_ok kN Tryd.func101 (by decide) (by kernel_rfl)
-- spec.l03Rounds
noncomputable def sL03Rounds_F : FnD := { f := 102, fn := Tryd.f102, ps := [], rs := [rt (.arr 24 (.int .u64))] }
noncomputable def sL03Rounds_c : List (Nat × Sig) := []
noncomputable def sL03Rounds_d : Unit → Option (((List Int) × Unit) × Unit) := sL03Rounds_F.d V sL03Rounds_c
noncomputable abbrev sL03Rounds_g : Sig := sL03Rounds_F.t.sig sL03Rounds_d
theorem sL03Rounds_b : sL03Rounds_d () = some ((((1 : Int) :: ((32898 : Int) :: ((9223372036854808714 : Int) :: ((9223372039002292224 : Int) :: ((32907 : Int) :: ((2147483649 : Int) :: ((9223372039002292353 : Int) :: ((9223372036854808585 : Int) :: ((138 : Int) :: ((136 : Int) :: ((2147516425 : Int) :: ((2147483658 : Int) :: ((2147516555 : Int) :: ((9223372036854775947 : Int) :: ((9223372036854808713 : Int) :: ((9223372036854808579 : Int) :: ((9223372036854808578 : Int) :: ((9223372036854775936 : Int) :: ((32778 : Int) :: ((9223372039002259466 : Int) :: ((9223372039002292353 : Int) :: ((9223372036854808704 : Int) :: ((2147483649 : Int) :: ((9223372039002292232 : Int) :: ([] : List Int))))))))))))))))))))))))), ()), ()) := (FnD.eq V sL03Rounds_c sL03Rounds_F ()).trans (by kernel_rfl)
theorem sL03Rounds_k : CallsOk Tryd.prog gls gvs 102 sL03Rounds_g := FnD.ok (F := sL03Rounds_F) (cs := sL03Rounds_c) V_ok kN Tryd.func102 (by decide) (by kernel_rfl)
-- spec.l03Turn
noncomputable def sL03Turn_F : FnD := { f := 124, fn := Tryd.f124, ps := [pa (.int .u64), pa (.int .u64)], rs := [rt (.int .u64)] }
noncomputable def sL03Turn_c : List (Nat × Sig) := []
noncomputable def sL03Turn_d : Int × Int × Unit → Option ((Int × Unit) × Unit) := sL03Turn_F.d V sL03Turn_c
noncomputable abbrev sL03Turn_g : Sig := sL03Turn_F.t.sig sL03Turn_d
theorem sL03Turn_b (x1 : Int) (x2 : Int) : sL03Turn_d (x1, (x2, ())) = cnd (nn x2) (cnd (nn (isub .u64 (64 : Int) x2)) (some (((ior .u64 (ishl .u64 x1 x2) (ishr .u64 x1 (isub .u64 (64 : Int) x2))), ()), ())) none) none := (FnD.eq V sL03Turn_c sL03Turn_F (x1, (x2, ()))).trans (by kernel_rfl)
theorem sL03Turn_k : CallsOk Tryd.prog gls gvs 124 sL03Turn_g := FnD.ok (F := sL03Turn_F) (cs := sL03Turn_c) V_ok kN Tryd.func124 (by decide) (by kernel_rfl)
-- spec.l03Round
noncomputable def sL03Round_F : FnD := { f := 103, fn := Tryd.f103, ps := [pa (.arr 25 (.int .u64)), pa (.arr 25 (.int .u64)), pa (.int .u64)], rs := [rt (.arr 25 (.int .u64))], joins := [18], cuts := [(3, [.val 2 (.int .u64) .sh, .val 8 (.int .i64) .sh, .box 3 (.arr 25 (.int .u64)) .sh, .box 4 (.arr 25 (.int .u64)) .sh, .box 6 (.arr 25 (.int .u64)) .sh, .box 7 (.arr 5 (.int .u64)) .sh, .ptr 3 3 0, .ptr 4 4 0, .ptr 6 6 0, .ptr 7 7 0]), (18, [.val 2 (.int .u64) .sh, .val 10 (.int .i64) .sh, .val 11 (.int .u64) .sh, .val 12 (.int .i64) .sh, .val 13 (.int .u64) .sh, .box 3 (.arr 25 (.int .u64)) .sh, .box 4 (.arr 25 (.int .u64)) .sh, .box 6 (.arr 25 (.int .u64)) .sh, .box 7 (.arr 5 (.int .u64)) .sh, .box 9 (.arr 25 (.int .u64)) .sh, .ptr 3 3 0, .ptr 4 4 0, .ptr 6 6 0, .ptr 7 7 0, .ptr 9 9 0]), (12, [.val 2 (.int .u64) .sh, .val 10 (.int .i64) .sh, .val 11 (.int .u64) .sh, .val 12 (.int .i64) .sh, .box 3 (.arr 25 (.int .u64)) .sh, .box 4 (.arr 25 (.int .u64)) .sh, .box 6 (.arr 25 (.int .u64)) .sh, .box 7 (.arr 5 (.int .u64)) .sh, .box 9 (.arr 25 (.int .u64)) .sh, .ptr 3 3 0, .ptr 4 4 0, .ptr 6 6 0, .ptr 7 7 0, .ptr 9 9 0]), (8, [.val 2 (.int .u64) .sh, .val 10 (.int .i64) .sh, .box 3 (.arr 25 (.int .u64)) .sh, .box 4 (.arr 25 (.int .u64)) .sh, .box 6 (.arr 25 (.int .u64)) .sh, .box 7 (.arr 5 (.int .u64)) .sh, .box 9 (.arr 25 (.int .u64)) .sh, .ptr 3 3 0, .ptr 4 4 0, .ptr 6 6 0, .ptr 7 7 0, .ptr 9 9 0]), (23, [.val 2 (.int .u64) .sh, .val 15 (.int .i64) .sh, .val 16 (.int .i64) .sh, .box 3 (.arr 25 (.int .u64)) .sh, .box 6 (.arr 25 (.int .u64)) .sh, .box 9 (.arr 25 (.int .u64)) .sh, .ptr 3 3 0, .ptr 6 6 0, .ptr 9 9 0]), (20, [.val 2 (.int .u64) .sh, .val 15 (.int .i64) .sh, .box 3 (.arr 25 (.int .u64)) .sh, .box 6 (.arr 25 (.int .u64)) .sh, .box 9 (.arr 25 (.int .u64)) .sh, .ptr 3 3 0, .ptr 6 6 0, .ptr 9 9 0])] }
noncomputable def sL03Round_c : List (Nat × Sig) := [(124, sL03Turn_g)]
noncomputable def sL03Round_d : (List Int) × (List Int) × Int × Unit → Option (((List Int) × Unit) × Unit) := sL03Round_F.d V sL03Round_c
noncomputable abbrev sL03Round_g : Sig := sL03Round_F.t.sig sL03Round_d
noncomputable def sL03Round_D3 : Int × Int × (List Int) × (List Int) × (List Int) × (List Int) × Unit → Option (((List Int) × Unit) × Unit) := sL03Round_F.D V sL03Round_c 3
noncomputable def sL03Round_D18 : Int × Int × Int × Int × Int × (List Int) × (List Int) × (List Int) × (List Int) × (List Int) × Unit → Option (((List Int) × Unit) × Unit) := sL03Round_F.D V sL03Round_c 18
noncomputable def sL03Round_D12 : Int × Int × Int × Int × (List Int) × (List Int) × (List Int) × (List Int) × (List Int) × Unit → Option (((List Int) × Unit) × Unit) := sL03Round_F.D V sL03Round_c 12
noncomputable def sL03Round_D8 : Int × Int × (List Int) × (List Int) × (List Int) × (List Int) × (List Int) × Unit → Option (((List Int) × Unit) × Unit) := sL03Round_F.D V sL03Round_c 8
noncomputable def sL03Round_D23 : Int × Int × Int × (List Int) × (List Int) × (List Int) × Unit → Option (((List Int) × Unit) × Unit) := sL03Round_F.D V sL03Round_c 23
noncomputable def sL03Round_D20 : Int × Int × (List Int) × (List Int) × (List Int) × Unit → Option (((List Int) × Unit) × Unit) := sL03Round_F.D V sL03Round_c 20
theorem sL03Round_b (x1 : (List Int)) (x2 : (List Int)) (x3 : Int) : sL03Round_d (x1, (x2, (x3, ()))) = sL03Round_D3 (x3, ((0 : Int), (x1, (x2, (((0 : Int) :: ((0 : Int) :: ((0 : Int) :: ((0 : Int) :: ((0 : Int) :: ((0 : Int) :: ((0 : Int) :: ((0 : Int) :: ((0 : Int) :: ((0 : Int) :: ((0 : Int) :: ((0 : Int) :: ((0 : Int) :: ((0 : Int) :: ((0 : Int) :: ((0 : Int) :: ((0 : Int) :: ((0 : Int) :: ((0 : Int) :: ((0 : Int) :: ((0 : Int) :: ((0 : Int) :: ((0 : Int) :: ((0 : Int) :: ((0 : Int) :: ([] : List Int)))))))))))))))))))))))))), (((0 : Int) :: ((0 : Int) :: ((0 : Int) :: ((0 : Int) :: ((0 : Int) :: ([] : List Int)))))), ())))))) := (FnD.eq V sL03Round_c sL03Round_F (x1, (x2, (x3, ())))).trans (by kernel_rfl)
theorem sL03Round_q3 (x1 : Int) (x2 : Int) (x3 : (List Int)) (x4 : (List Int)) (x5 : (List Int)) (x6 : (List Int)) : sL03Round_D3 (x1, (x2, (x3, (x4, (x5, (x6, ())))))) = cnd (ilt x2 (5 : Int)) (cnd (inb x2 (25 : Int)) (cnd (inb (iadd .i64 x2 (5 : Int)) (25 : Int)) (cnd (inb (iadd .i64 x2 (10 : Int)) (25 : Int)) (cnd (inb (iadd .i64 x2 (15 : Int)) (25 : Int)) (cnd (inb (iadd .i64 x2 (20 : Int)) (25 : Int)) (cnd (inb x2 (5 : Int)) (sL03Round_D3 (x1, ((iadd .i64 x2 (1 : Int)), (x3, (x4, (x5, ((upd x6 x2 (ixor .u64 (ixor .u64 (ixor .u64 (ixor .u64 (rd (0 : Int) x3 x2) (rd (0 : Int) x3 (iadd .i64 x2 (5 : Int)))) (rd (0 : Int) x3 (iadd .i64 x2 (10 : Int)))) (rd (0 : Int) x3 (iadd .i64 x2 (15 : Int)))) (rd (0 : Int) x3 (iadd .i64 x2 (20 : Int))))), ()))))))) none) none) none) none) none) none) (sL03Round_D8 (x1, ((0 : Int), (x3, (x4, (x5, (x6, (((0 : Int) :: ((0 : Int) :: ((0 : Int) :: ((0 : Int) :: ((0 : Int) :: ((0 : Int) :: ((0 : Int) :: ((0 : Int) :: ((0 : Int) :: ((0 : Int) :: ((0 : Int) :: ((0 : Int) :: ((0 : Int) :: ((0 : Int) :: ((0 : Int) :: ((0 : Int) :: ((0 : Int) :: ((0 : Int) :: ((0 : Int) :: ((0 : Int) :: ((0 : Int) :: ((0 : Int) :: ((0 : Int) :: ((0 : Int) :: ((0 : Int) :: ([] : List Int)))))))))))))))))))))))))), ())))))))) := (FnD.eqC V sL03Round_c sL03Round_F 3 (x1, (x2, (x3, (x4, (x5, (x6, ()))))))).trans (by kernel_rfl)
theorem sL03Round_q18 (x1 : Int) (x2 : Int) (x3 : Int) (x4 : Int) (x5 : Int) (x6 : (List Int)) (x7 : (List Int)) (x8 : (List Int)) (x9 : (List Int)) (x10 : (List Int)) : sL03Round_D18 (x1, (x2, (x3, (x4, (x5, (x6, (x7, (x8, (x9, (x10, ())))))))))) = cnd (nz (5 : Int)) (cnd (inb (iadd .i64 x4 (imul .i64 (5 : Int) (irem (iadd .i64 (imul .i64 (2 : Int) x2) (imul .i64 (3 : Int) x4)) (5 : Int)))) (25 : Int)) (sL03Round_D12 (x1, (x2, (x3, ((iadd .i64 x4 (1 : Int)), (x6, (x7, (x8, (x9, ((upd x10 (iadd .i64 x4 (imul .i64 (5 : Int) (irem (iadd .i64 (imul .i64 (2 : Int) x2) (imul .i64 (3 : Int) x4)) (5 : Int)))) x5), ())))))))))) none) none := (FnD.eqC V sL03Round_c sL03Round_F 18 (x1, (x2, (x3, (x4, (x5, (x6, (x7, (x8, (x9, (x10, ()))))))))))).trans (by kernel_rfl)
theorem sL03Round_q12 (x1 : Int) (x2 : Int) (x3 : Int) (x4 : Int) (x5 : (List Int)) (x6 : (List Int)) (x7 : (List Int)) (x8 : (List Int)) (x9 : (List Int)) : sL03Round_D12 (x1, (x2, (x3, (x4, (x5, (x6, (x7, (x8, (x9, ()))))))))) = cnd (ilt x4 (5 : Int)) (cnd (inb (iadd .i64 x2 (imul .i64 (5 : Int) x4)) (25 : Int)) (cnd (inb (iadd .i64 x2 (imul .i64 (5 : Int) x4)) (25 : Int)) (cnd (igt (rd (0 : Int) x6 (iadd .i64 x2 (imul .i64 (5 : Int) x4))) (0 : Int)) (bnd (sL03Turn_d ((ixor .u64 (rd (0 : Int) x5 (iadd .i64 x2 (imul .i64 (5 : Int) x4))) x3), ((rd (0 : Int) x6 (iadd .i64 x2 (imul .i64 (5 : Int) x4))), ()))) (fun r9 => (sL03Round_D18 (x1, (x2, (x3, (x4, (r9.1.1, (x5, (x6, (x7, (x8, (x9, ()))))))))))))) (sL03Round_D18 (x1, (x2, (x3, (x4, ((ixor .u64 (rd (0 : Int) x5 (iadd .i64 x2 (imul .i64 (5 : Int) x4))) x3), (x5, (x6, (x7, (x8, (x9, ())))))))))))) none) none) (sL03Round_D8 (x1, ((iadd .i64 x2 (1 : Int)), (x5, (x6, (x7, (x8, (x9, ())))))))) := (FnD.eqC V sL03Round_c sL03Round_F 12 (x1, (x2, (x3, (x4, (x5, (x6, (x7, (x8, (x9, ())))))))))).trans (by kernel_rfl)
theorem sL03Round_q8 (x1 : Int) (x2 : Int) (x3 : (List Int)) (x4 : (List Int)) (x5 : (List Int)) (x6 : (List Int)) (x7 : (List Int)) : sL03Round_D8 (x1, (x2, (x3, (x4, (x5, (x6, (x7, ()))))))) = cnd (ilt x2 (5 : Int)) (cnd (nz (5 : Int)) (cnd (inb (irem (iadd .i64 x2 (4 : Int)) (5 : Int)) (5 : Int)) (cnd (nz (5 : Int)) (cnd (inb (irem (iadd .i64 x2 (1 : Int)) (5 : Int)) (5 : Int)) (bnd (sL03Turn_d ((rd (0 : Int) x6 (irem (iadd .i64 x2 (1 : Int)) (5 : Int))), ((1 : Int), ()))) (fun r7 => (sL03Round_D12 (x1, (x2, ((ixor .u64 (rd (0 : Int) x6 (irem (iadd .i64 x2 (4 : Int)) (5 : Int))) r7.1.1), ((0 : Int), (x3, (x4, (x5, (x6, (x7, ())))))))))))) none) none) none) none) (sL03Round_D20 (x1, ((0 : Int), (x3, (x5, (x7, ())))))) := (FnD.eqC V sL03Round_c sL03Round_F 8 (x1, (x2, (x3, (x4, (x5, (x6, (x7, ())))))))).trans (by kernel_rfl)
theorem sL03Round_q23 (x1 : Int) (x2 : Int) (x3 : Int) (x4 : (List Int)) (x5 : (List Int)) (x6 : (List Int)) : sL03Round_D23 (x1, (x2, (x3, (x4, (x5, (x6, ())))))) = cnd (ilt x3 (5 : Int)) (cnd (inb (iadd .i64 x3 (imul .i64 (5 : Int) x2)) (25 : Int)) (cnd (nz (5 : Int)) (cnd (inb (iadd .i64 (irem (iadd .i64 x3 (1 : Int)) (5 : Int)) (imul .i64 (5 : Int) x2)) (25 : Int)) (cnd (nz (5 : Int)) (cnd (inb (iadd .i64 (irem (iadd .i64 x3 (2 : Int)) (5 : Int)) (imul .i64 (5 : Int) x2)) (25 : Int)) (cnd (inb (iadd .i64 x3 (imul .i64 (5 : Int) x2)) (25 : Int)) (sL03Round_D23 (x1, (x2, ((iadd .i64 x3 (1 : Int)), ((upd x4 (iadd .i64 x3 (imul .i64 (5 : Int) x2)) (ixor .u64 (rd (0 : Int) x6 (iadd .i64 x3 (imul .i64 (5 : Int) x2))) (iand .u64 (ixor .u64 (rd (0 : Int) x6 (iadd .i64 (irem (iadd .i64 x3 (1 : Int)) (5 : Int)) (imul .i64 (5 : Int) x2))) (18446744073709551615 : Int)) (rd (0 : Int) x6 (iadd .i64 (irem (iadd .i64 x3 (2 : Int)) (5 : Int)) (imul .i64 (5 : Int) x2)))))), (x5, (x6, ()))))))) none) none) none) none) none) none) (sL03Round_D20 (x1, ((iadd .i64 x2 (1 : Int)), (x4, (x5, (x6, ())))))) := (FnD.eqC V sL03Round_c sL03Round_F 23 (x1, (x2, (x3, (x4, (x5, (x6, ()))))))).trans (by kernel_rfl)
theorem sL03Round_q20 (x1 : Int) (x2 : Int) (x3 : (List Int)) (x4 : (List Int)) (x5 : (List Int)) : sL03Round_D20 (x1, (x2, (x3, (x4, (x5, ()))))) = cnd (ilt x2 (5 : Int)) (sL03Round_D23 (x1, (x2, ((0 : Int), (x3, (x4, (x5, ()))))))) (cnd (inb (0 : Int) (25 : Int)) (cnd (inb (0 : Int) (25 : Int)) (some (((upd x3 (0 : Int) (ixor .u64 (rd (0 : Int) x3 (0 : Int)) x1)), ()), ())) none) none) := (FnD.eqC V sL03Round_c sL03Round_F 20 (x1, (x2, (x3, (x4, (x5, ())))))).trans (by kernel_rfl)
theorem sL03Round_k : CallsOk Tryd.prog gls gvs 103 sL03Round_g := FnD.ok (F := sL03Round_F) (cs := sL03Round_c) V_ok (kC sL03Turn_k kN) Tryd.func103 (by decide) (by kernel_rfl)
-- spec.l03All
noncomputable def sL03All_F : FnD := { f := 76, fn := Tryd.f76, ps := [pa (.arr 25 (.int .u64))], rs := [rt (.arr 25 (.int .u64))], cuts := [(4, [.val 5 (.int .i64) .sh, .box 1 (.arr 25 (.int .u64)) .sh, .box 2 (.arr 25 (.int .u64)) .sh, .box 3 (.arr 25 (.int .u64)) .sh, .box 4 (.arr 24 (.int .u64)) .sh, .ptr 1 1 0, .ptr 2 2 0, .ptr 3 3 0, .ptr 4 4 0])] }
noncomputable def sL03All_c : List (Nat × Sig) := [(101, sL03Offsets_g), (102, sL03Rounds_g), (103, sL03Round_g)]
noncomputable def sL03All_d : (List Int) × Unit → Option (((List Int) × Unit) × Unit) := sL03All_F.d V sL03All_c
noncomputable abbrev sL03All_g : Sig := sL03All_F.t.sig sL03All_d
noncomputable def sL03All_D4 : Int × (List Int) × (List Int) × (List Int) × (List Int) × Unit → Option (((List Int) × Unit) × Unit) := sL03All_F.D V sL03All_c 4
theorem sL03All_b (x1 : (List Int)) : sL03All_d (x1, ()) = bnd (sL03Offsets_d ()) (fun r1 => (bnd (sL03Rounds_d ()) (fun r2 => (sL03All_D4 ((0 : Int), (x1, (((0 : Int) :: ((0 : Int) :: ((0 : Int) :: ((0 : Int) :: ((0 : Int) :: ((0 : Int) :: ((0 : Int) :: ((0 : Int) :: ((0 : Int) :: ((0 : Int) :: ((0 : Int) :: ((0 : Int) :: ((0 : Int) :: ((0 : Int) :: ((0 : Int) :: ((0 : Int) :: ((0 : Int) :: ((0 : Int) :: ((0 : Int) :: ((0 : Int) :: ((0 : Int) :: ((0 : Int) :: ((0 : Int) :: ((0 : Int) :: ((0 : Int) :: ([] : List Int)))))))))))))))))))))))))), (r1.1.1, (r2.1.1, ()))))))))) := (FnD.eq V sL03All_c sL03All_F (x1, ())).trans (by kernel_rfl)
theorem sL03All_q4 (x1 : Int) (x2 : (List Int)) (x3 : (List Int)) (x4 : (List Int)) (x5 : (List Int)) : sL03All_D4 (x1, (x2, (x3, (x4, (x5, ()))))) = cnd (ilt x1 (24 : Int)) (cnd (inb x1 (24 : Int)) (bnd (sL03Round_d (x2, (x4, ((rd (0 : Int) x5 x1), ())))) (fun r5 => (sL03All_D4 ((iadd .i64 x1 (1 : Int)), (r5.1.1, (x3, (x4, (x5, ())))))))) none) (some ((x2, ()), ())) := (FnD.eqC V sL03All_c sL03All_F 4 (x1, (x2, (x3, (x4, (x5, ())))))).trans (by kernel_rfl)
theorem sL03All_k : CallsOk Tryd.prog gls gvs 76 sL03All_g := FnD.ok (F := sL03All_F) (cs := sL03All_c) V_ok (kC sL03Offsets_k (kC sL03Rounds_k (kC sL03Round_k kN))) Tryd.func76 (by decide) (by kernel_rfl)
-- spec.l03Text
noncomputable def sL03Text_F : FnD := { f := 77, fn := Tryd.f77, ps := [pa (.arr 25 (.int .u64))], rs := [rt .str], cuts := [(3, [.val 3 (.sl (.int .u8)) (.own 0 .sh), .val 4 (.int .i64) .sh, .box 1 (.arr 25 (.int .u64)) .sh, .ptr 1 1 0])] }
noncomputable def sL03Text_c : List (Nat × Sig) := []
noncomputable def sL03Text_d : (List Int) × Unit → Option ((ByteArray × Unit) × Unit) := sL03Text_F.d V sL03Text_c
noncomputable abbrev sL03Text_g : Sig := sL03Text_F.t.sig sL03Text_d
noncomputable def sL03Text_D3 : (List Int) × Int × (List Int) × Unit → Option ((ByteArray × Unit) × Unit) := sL03Text_F.D V sL03Text_c 3
theorem sL03Text_b (x1 : (List Int)) : sL03Text_d (x1, ()) = cnd (both (inb2 (0 : Int) (200 : Int) (200 : Int)) (fits (200 : Int) 1)) (sL03Text_D3 ((rep (200 : Int) (0 : Int)), ((0 : Int), (x1, ())))) none := (FnD.eq V sL03Text_c sL03Text_F (x1, ())).trans (by kernel_rfl)
theorem sL03Text_q3 (x1 : (List Int)) (x2 : Int) (x3 : (List Int)) : sL03Text_D3 (x1, (x2, (x3, ()))) = cnd (ilt x2 (200 : Int)) (cnd (nz (8 : Int)) (cnd (inb (iquo .i64 x2 (8 : Int)) (25 : Int)) (cnd (nz (8 : Int)) (cnd (nn (imul .u64 (8 : Int) (iconv .u64 (irem x2 (8 : Int))))) (cnd (inb x2 (len x1)) (sL03Text_D3 ((upd x1 x2 (iconv .u8 (ishr .u64 (rd (0 : Int) x3 (iquo .i64 x2 (8 : Int))) (imul .u64 (8 : Int) (iconv .u64 (irem x2 (8 : Int))))))), ((iadd .i64 x2 (1 : Int)), (x3, ())))) none) none) none) none) none) (some (((sof x1), ()), ())) := (FnD.eqC V sL03Text_c sL03Text_F 3 (x1, (x2, (x3, ())))).trans (by kernel_rfl)
theorem sL03Text_k : CallsOk Tryd.prog gls gvs 77 sL03Text_g := FnD.ok (F := sL03Text_F) (cs := sL03Text_c) V_ok kN Tryd.func77 (by decide) (by kernel_rfl)
-- spec.Digest
noncomputable def sDigest_F : FnD := { f := 39, fn := Tryd.f39, ps := [pa .str], rs := [rt .str], cuts := [(7, [.val 3 .str .sh, .val 5 (.int .i64) .sh, .val 6 (.int .i64) .sh, .box 4 (.arr 25 (.int .u64)) .sh, .ptr 4 4 0]), (4, [.val 3 .str .sh, .val 5 (.int .i64) .sh, .box 4 (.arr 25 (.int .u64)) .sh, .ptr 4 4 0])] }
noncomputable def sDigest_c : List (Nat × Sig) := [(74, sKeccakPad_g), (75, sL03Word_g), (76, sL03All_g), (77, sL03Text_g)]
noncomputable def sDigest_d : ByteArray × Unit → Option ((ByteArray × Unit) × Unit) := sDigest_F.d V sDigest_c
noncomputable abbrev sDigest_g : Sig := sDigest_F.t.sig sDigest_d
noncomputable def sDigest_D7 : ByteArray × Int × Int × (List Int) × Unit → Option ((ByteArray × Unit) × Unit) := sDigest_F.D V sDigest_c 7
noncomputable def sDigest_D4 : ByteArray × Int × (List Int) × Unit → Option ((ByteArray × Unit) × Unit) := sDigest_F.D V sDigest_c 4
theorem sDigest_b (x1 : ByteArray) : sDigest_d (x1, ()) = bnd (sKeccakPad_d (x1, ())) (fun r1 => (sDigest_D4 (r1.1.1, ((0 : Int), (((0 : Int) :: ((0 : Int) :: ((0 : Int) :: ((0 : Int) :: ((0 : Int) :: ((0 : Int) :: ((0 : Int) :: ((0 : Int) :: ((0 : Int) :: ((0 : Int) :: ((0 : Int) :: ((0 : Int) :: ((0 : Int) :: ((0 : Int) :: ((0 : Int) :: ((0 : Int) :: ((0 : Int) :: ((0 : Int) :: ((0 : Int) :: ((0 : Int) :: ((0 : Int) :: ((0 : Int) :: ((0 : Int) :: ((0 : Int) :: ((0 : Int) :: ([] : List Int)))))))))))))))))))))))))), ()))))) := (FnD.eq V sDigest_c sDigest_F (x1, ())).trans (by kernel_rfl)
theorem sDigest_q7 (x1 : ByteArray) (x2 : Int) (x3 : Int) (x4 : (List Int)) : sDigest_D7 (x1, (x2, (x3, (x4, ())))) = cnd (ilt x3 (17 : Int)) (cnd (inb x3 (25 : Int)) (bnd (sL03Word_d (x1, ((iadd .i64 x2 (imul .i64 (8 : Int) x3)), ()))) (fun r4 => (cnd (inb x3 (25 : Int)) (sDigest_D7 (x1, (x2, ((iadd .i64 x3 (1 : Int)), ((upd x4 x3 (ixor .u64 (rd (0 : Int) x4 x3) r4.1.1)), ()))))) none))) none) (bnd (sL03All_d (x4, ())) (fun r4 => (sDigest_D4 (x1, ((iadd .i64 x2 (136 : Int)), (r4.1.1, ())))))) := (FnD.eqC V sDigest_c sDigest_F 7 (x1, (x2, (x3, (x4, ()))))).trans (by kernel_rfl)
theorem sDigest_q4 (x1 : ByteArray) (x2 : Int) (x3 : (List Int)) : sDigest_D4 (x1, (x2, (x3, ()))) = cnd (ilt x2 (ssz x1)) (sDigest_D7 (x1, (x2, ((0 : Int), (x3, ()))))) (bnd (sL03Text_d (x3, ())) (fun r3 => (cnd (inb2 (0 : Int) (32 : Int) (ssz r3.1.1)) (some (((ssub r3.1.1 (0 : Int) (32 : Int)), ()), ())) none))) := (FnD.eqC V sDigest_c sDigest_F 4 (x1, (x2, (x3, ())))).trans (by kernel_rfl)
theorem sDigest_k : CallsOk Tryd.prog gls gvs 39 sDigest_g := FnD.ok (F := sDigest_F) (cs := sDigest_c) V_ok (kC sKeccakPad_k (kC sL03Word_k (kC sL03All_k (kC sL03Text_k kN)))) Tryd.func39 (by decide) (by kernel_rfl)
-- spec.LevelsOf
noncomputable def sLevelsOf_F : FnD := { f := 117, fn := Tryd.f117, ps := [pa (.int .i64)], rs := [rt (.int .i64)], cuts := [(4, [.val 0 (.int .i64) .sh, .val 3 (.int .i64) .sh])] }
noncomputable def sLevelsOf_c : List (Nat × Sig) := [(36, sL01In_g)]
noncomputable def sLevelsOf_d : Int × Unit → Option ((Int × Unit) × Unit) := sLevelsOf_F.d V sLevelsOf_c
noncomputable abbrev sLevelsOf_g : Sig := sLevelsOf_F.t.sig sLevelsOf_d
noncomputable def sLevelsOf_D4 : Int × Int × Unit → Option ((Int × Unit) × Unit) := sLevelsOf_F.D V sLevelsOf_c 4
theorem sLevelsOf_b (x1 : Int) : sLevelsOf_d (x1, ()) = bnd (sL01In_d (x1, ((0 : Int), ((32 : Int), ())))) (fun r1 => (cnd (bnot r1.1.1) (some (((-1 : Int), ()), ())) (sLevelsOf_D4 (x1, ((0 : Int), ()))))) := (FnD.eq V sLevelsOf_c sLevelsOf_F (x1, ())).trans (by kernel_rfl)
theorem sLevelsOf_q4 (x1 : Int) (x2 : Int) : sLevelsOf_D4 (x1, (x2, ())) = cnd (nn (iconv .u64 x2)) (cnd (ilt (ishl .i64 (1 : Int) (iconv .u64 x2)) x1) (sLevelsOf_D4 (x1, ((iadd .i64 x2 (1 : Int)), ()))) (some ((x2, ()), ()))) none := (FnD.eqC V sLevelsOf_c sLevelsOf_F 4 (x1, (x2, ()))).trans (by kernel_rfl)
theorem sLevelsOf_k : CallsOk Tryd.prog gls gvs 117 sLevelsOf_g := FnD.ok (F := sLevelsOf_F) (cs := sLevelsOf_c) V_ok (kC sL01In_k kN) Tryd.func117 (by decide) (by kernel_rfl)
-- spec.l10Hashes
noncomputable def sL10Hashes_F : FnD := { f := 93, fn := Tryd.f93, ps := [pa (.sl .str)], rs := [⟨(.sl .str), (.own 0 .sh), false⟩], cuts := [(3, [.val 0 (.sl .str) .sh, .val 3 (.sl .str) (.own 0 .sh), .val 4 (.int .i64) .sh]), (7, [.val 0 (.sl .str) .sh, .val 3 (.sl .str) (.own 0 .sh), .val 5 .str .sh])] }
noncomputable def sL10Hashes_c : List (Nat × Sig) := [(39, sDigest_g), (117, sLevelsOf_g)]
noncomputable def sL10Hashes_d : (List ByteArray) × Unit → Option (((List ByteArray) × Unit) × Unit) := sL10Hashes_F.d V sL10Hashes_c
noncomputable abbrev sL10Hashes_g : Sig := sL10Hashes_F.t.sig sL10Hashes_d
noncomputable def sL10Hashes_D3 : (List ByteArray) × (List ByteArray) × Int × Unit → Option (((List ByteArray) × Unit) × Unit) := sL10Hashes_F.D V sL10Hashes_c 3
noncomputable def sL10Hashes_D7 : (List ByteArray) × (List ByteArray) × ByteArray × Unit → Option (((List ByteArray) × Unit) × Unit) := sL10Hashes_F.D V sL10Hashes_c 7
theorem sL10Hashes_b (x1 : (List ByteArray)) : sL10Hashes_d (x1, ()) = sL10Hashes_D3 (x1, (([] : List ByteArray), ((0 : Int), ()))) := (FnD.eq V sL10Hashes_c sL10Hashes_F (x1, ())).trans (by kernel_rfl)
theorem sL10Hashes_q3 (x1 : (List ByteArray)) (x2 : (List ByteArray)) (x3 : Int) : sL10Hashes_D3 (x1, (x2, (x3, ()))) = cnd (ilt x3 (len x1)) (cnd (inb x3 (len x1)) (bnd (sDigest_d ((rd (bs []) x1 x3), ())) (fun r3 => (cnd (fits ((len x2) + (len (r3.1.1 :: ([] : List ByteArray)))) 1) (sL10Hashes_D3 (x1, ((app x2 (r3.1.1 :: ([] : List ByteArray))), ((iadd .i64 x3 (1 : Int)), ())))) none))) none) (bnd (sDigest_d ((bs []), ())) (fun r3 => (sL10Hashes_D7 (x1, (x2, (r3.1.1, ())))))) := (FnD.eqC V sL10Hashes_c sL10Hashes_F 3 (x1, (x2, (x3, ())))).trans (by kernel_rfl)
theorem sL10Hashes_q7 (x1 : (List ByteArray)) (x2 : (List ByteArray)) (x3 : ByteArray) : sL10Hashes_D7 (x1, (x2, (x3, ()))) = bnd (sLevelsOf_d ((len x1), ())) (fun r3 => (cnd (nn (iconv .u64 r3.1.1)) (cnd (ilt (len x2) (ishl .i64 (1 : Int) (iconv .u64 r3.1.1))) (cnd (fits ((len x2) + (len (x3 :: ([] : List ByteArray)))) 1) (sL10Hashes_D7 (x1, ((app x2 (x3 :: ([] : List ByteArray))), (x3, ())))) none) (some ((x2, ()), ()))) none)) := (FnD.eqC V sL10Hashes_c sL10Hashes_F 7 (x1, (x2, (x3, ())))).trans (by kernel_rfl)
theorem sL10Hashes_k : CallsOk Tryd.prog gls gvs 93 sL10Hashes_g := FnD.ok (F := sL10Hashes_F) (cs := sL10Hashes_c) V_ok (kC sDigest_k (kC sLevelsOf_k kN)) Tryd.func93 (by decide) (by kernel_rfl)
-- spec.DigestPair
noncomputable def sDigestPair_F : FnD := { f := 118, fn := Tryd.f118, ps := [pa .str, pa .str], rs := [rt .str] }
noncomputable def sDigestPair_c : List (Nat × Sig) := [(39, sDigest_g)]
noncomputable def sDigestPair_d : ByteArray × ByteArray × Unit → Option ((ByteArray × Unit) × Unit) := sDigestPair_F.d V sDigestPair_c
noncomputable abbrev sDigestPair_g : Sig := sDigestPair_F.t.sig sDigestPair_d
theorem sDigestPair_b (x1 : ByteArray) (x2 : ByteArray) : sDigestPair_d (x1, (x2, ())) = cnd (fits ((ssz x1) + (ssz x2)) 1) (bnd (sDigest_d ((scat x1 x2), ())) (fun r2 => (some ((r2.1.1, ()), ())))) none := (FnD.eq V sDigestPair_c sDigestPair_F (x1, (x2, ()))).trans (by kernel_rfl)
theorem sDigestPair_k : CallsOk Tryd.prog gls gvs 118 sDigestPair_g := FnD.ok (F := sDigestPair_F) (cs := sDigestPair_c) V_ok (kC sDigest_k kN) Tryd.func118 (by decide) (by kernel_rfl)
-- spec.l10Up
noncomputable def sL10Up_F : FnD := { f := 94, fn := Tryd.f94, ps := [pa (.sl .str)], rs := [⟨(.sl .str), (.own 0 .sh), false⟩], cuts := [(3, [.val 0 (.sl .str) .sh, .val 3 (.sl .str) (.own 0 .sh), .val 4 (.int .i64) .sh])] }
noncomputable def sL10Up_c : List (Nat × Sig) := [(118, sDigestPair_g)]
noncomputable def sL10Up_d : (List ByteArray) × Unit → Option (((List ByteArray) × Unit) × Unit) := sL10Up_F.d V sL10Up_c
noncomputable abbrev sL10Up_g : Sig := sL10Up_F.t.sig sL10Up_d
noncomputable def sL10Up_D3 : (List ByteArray) × (List ByteArray) × Int × Unit → Option (((List ByteArray) × Unit) × Unit) := sL10Up_F.D V sL10Up_c 3
theorem sL10Up_b (x1 : (List ByteArray)) : sL10Up_d (x1, ()) = sL10Up_D3 (x1, (([] : List ByteArray), ((0 : Int), ()))) := (FnD.eq V sL10Up_c sL10Up_F (x1, ())).trans (by kernel_rfl)
theorem sL10Up_q3 (x1 : (List ByteArray)) (x2 : (List ByteArray)) (x3 : Int) : sL10Up_D3 (x1, (x2, (x3, ()))) = cnd (ilt (iadd .i64 x3 (1 : Int)) (len x1)) (cnd (inb x3 (len x1)) (cnd (inb (iadd .i64 x3 (1 : Int)) (len x1)) (bnd (sDigestPair_d ((rd (bs []) x1 x3), ((rd (bs []) x1 (iadd .i64 x3 (1 : Int))), ()))) (fun r3 => (cnd (fits ((len x2) + (len (r3.1.1 :: ([] : List ByteArray)))) 1) (sL10Up_D3 (x1, ((app x2 (r3.1.1 :: ([] : List ByteArray))), ((iadd .i64 x3 (2 : Int)), ())))) none))) none) none) (some ((x2, ()), ())) := (FnD.eqC V sL10Up_c sL10Up_F 3 (x1, (x2, (x3, ())))).trans (by kernel_rfl)
theorem sL10Up_k : CallsOk Tryd.prog gls gvs 94 sL10Up_g := FnD.ok (F := sL10Up_F) (cs := sL10Up_c) V_ok (kC sDigestPair_k kN) Tryd.func94 (by decide) (by kernel_rfl)
-- spec.RootOf
noncomputable def sRootOf_F : FnD := { f := 61, fn := Tryd.f61, ps := [pa (.sl .str)], rs := [rt .str], cuts := [(4, [.val 3 (.sl .str) (.own 0 .sh)])] }
noncomputable def sRootOf_c : List (Nat × Sig) := [(93, sL10Hashes_g), (94, sL10Up_g)]
noncomputable def sRootOf_d : (List ByteArray) × Unit → Option ((ByteArray × Unit) × Unit) := sRootOf_F.d V sRootOf_c
noncomputable abbrev sRootOf_g : Sig := sRootOf_F.t.sig sRootOf_d
noncomputable def sRootOf_D4 : (List ByteArray) × Unit → Option ((ByteArray × Unit) × Unit) := sRootOf_F.D V sRootOf_c 4
theorem sRootOf_b (x1 : (List ByteArray)) : sRootOf_d (x1, ()) = cnd (igt (len x1) (32 : Int)) (some (((bs []), ()), ())) (bnd (sL10Hashes_d (x1, ())) (fun r1 => (sRootOf_D4 (r1.1.1, ())))) := (FnD.eq V sRootOf_c sRootOf_F (x1, ())).trans (by kernel_rfl)
theorem sRootOf_q4 (x1 : (List ByteArray)) : sRootOf_D4 (x1, ()) = cnd (igt (len x1) (1 : Int)) (bnd (sL10Up_d (x1, ())) (fun r1 => (sRootOf_D4 (r1.1.1, ())))) (cnd (inb (0 : Int) (len x1)) (some (((rd (bs []) x1 (0 : Int)), ()), ())) none) := (FnD.eqC V sRootOf_c sRootOf_F 4 (x1, ())).trans (by kernel_rfl)
theorem sRootOf_k : CallsOk Tryd.prog gls gvs 61 sRootOf_g := FnD.ok (F := sRootOf_F) (cs := sRootOf_c) V_ok (kC sL10Hashes_k (kC sL10Up_k kN)) Tryd.func61 (by decide) (by kernel_rfl)
-- spec.HeadRoot
noncomputable def sHeadRoot_F : FnD := { f := 25, fn := Tryd.f25, ps := [pa THead], rs := [rt .str] }
noncomputable def sHeadRoot_c : List (Nat × Sig) := [(60, sHeadOk_g), (62, sL01Var_g), (61, sRootOf_g)]
noncomputable def sHeadRoot_d : tHead × Unit → Option ((ByteArray × Unit) × Unit) := sHeadRoot_F.d V sHeadRoot_c
noncomputable abbrev sHeadRoot_g : Sig := sHeadRoot_F.t.sig sHeadRoot_d
theorem sHeadRoot_b (x1 : tHead) : sHeadRoot_d (x1, ()) = bnd (sHeadOk_d (x1, ())) (fun r1 => (cnd (bnot r1.1.1) (some (((bs []), ()), ())) (bnd (sL01Var_d (x1.1, ())) (fun r2 => (bnd (sRootOf_d ((r2.1.1 :: (x1.2.1 :: (x1.2.2.1 :: (x1.2.2.2.1 :: ([] : List ByteArray))))), ())) (fun r3 => (some ((r3.1.1, ()), ())))))))) := (FnD.eq V sHeadRoot_c sHeadRoot_F (x1, ())).trans (by kernel_rfl)
theorem sHeadRoot_k : CallsOk Tryd.prog gls gvs 25 sHeadRoot_g := FnD.ok (F := sHeadRoot_F) (cs := sHeadRoot_c) V_ok (kC sHeadOk_k (kC sL01Var_k (kC sRootOf_k kN))) Tryd.func25 (by decide) (by kernel_rfl)
-- spec.l01Figure
noncomputable def sL01Figure_F : FnD := { f := 59, fn := Tryd.f59, ps := [pa (.int .i64)], rs := [rt (.int .u8)] }
noncomputable def sL01Figure_c : List (Nat × Sig) := []
noncomputable def sL01Figure_d : Int × Unit → Option ((Int × Unit) × Unit) := sL01Figure_F.d V sL01Figure_c
noncomputable abbrev sL01Figure_g : Sig := sL01Figure_F.t.sig sL01Figure_d
theorem sL01Figure_b (x1 : Int) : sL01Figure_d (x1, ()) = cnd (ilt x1 (10 : Int)) (some (((iconv .u8 (iadd .i64 (48 : Int) x1)), ()), ())) (some (((iconv .u8 (isub .i64 (iadd .i64 (97 : Int) x1) (10 : Int))), ()), ())) := (FnD.eq V sL01Figure_c sL01Figure_F (x1, ())).trans (by kernel_rfl)
theorem sL01Figure_k : CallsOk Tryd.prog gls gvs 59 sL01Figure_g := FnD.ok (F := sL01Figure_F) (cs := sL01Figure_c) V_ok kN Tryd.func59 (by decide) (by kernel_rfl)
-- spec.Hex
noncomputable def sHex_F : FnD := { f := 24, fn := Tryd.f24, ps := [pa .str], rs := [rt .str, rt .bool], cuts := [(5, [.val 0 .str .sh, .val 4 (.sl (.int .u8)) (.own 0 .sh), .val 5 (.int .i64) .sh])] }
noncomputable def sHex_c : List (Nat × Sig) := [(59, sL01Figure_g)]
noncomputable def sHex_d : ByteArray × Unit → Option ((ByteArray × Bool × Unit) × Unit) := sHex_F.d V sHex_c
noncomputable abbrev sHex_g : Sig := sHex_F.t.sig sHex_d
noncomputable def sHex_D5 : ByteArray × (List Int) × Int × Unit → Option ((ByteArray × Bool × Unit) × Unit) := sHex_F.D V sHex_c 5
theorem sHex_b (x1 : ByteArray) : sHex_d (x1, ()) = cnd (igt (ssz x1) (20000 : Int)) (some (zL21Cur, ())) (sHex_D5 (x1, (([] : List Int), ((0 : Int), ())))) := (FnD.eq V sHex_c sHex_F (x1, ())).trans (by kernel_rfl)
theorem sHex_q5 (x1 : ByteArray) (x2 : (List Int)) (x3 : Int) : sHex_D5 (x1, (x2, (x3, ()))) = cnd (ilt x3 (ssz x1)) (cnd (inb x3 (ssz x1)) (cnd (nz (16 : Int)) (bnd (sL01Figure_d ((iquo .i64 (iconv .i64 (sat x1 x3)) (16 : Int)), ())) (fun r3 => (cnd (inb x3 (ssz x1)) (cnd (nz (16 : Int)) (bnd (sL01Figure_d ((irem (iconv .i64 (sat x1 x3)) (16 : Int)), ())) (fun r4 => (cnd (fits ((len x2) + (len (r3.1.1 :: (r4.1.1 :: ([] : List Int))))) 1) (sHex_D5 (x1, ((app x2 (r3.1.1 :: (r4.1.1 :: ([] : List Int)))), ((iadd .i64 x3 (1 : Int)), ())))) none))) none) none))) none) none) (some (((sof x2), (true, ())), ())) := (FnD.eqC V sHex_c sHex_F 5 (x1, (x2, (x3, ())))).trans (by kernel_rfl)
theorem sHex_k : CallsOk Tryd.prog gls gvs 24 sHex_g := FnD.ok (F := sHex_F) (cs := sHex_c) V_ok (kC sL01Figure_k kN) Tryd.func24 (by decide) (by kernel_rfl)
-- spec.Decimal
noncomputable def sDecimal_F : FnD := { f := 63, fn := Tryd.f63, ps := [pa (.int .i64)], rs := [rt .str], joins := [9], cuts := [(9, [.val 0 (.int .i64) .sh, .val 3 .bool .sh, .val 4 .str .sh, .val 5 (.int .i64) .sh]), (5, [.val 0 (.int .i64) .sh, .val 3 .bool .sh, .val 4 .str .sh])] }
noncomputable def sDecimal_c : List (Nat × Sig) := [(59, sL01Figure_g)]
noncomputable def sDecimal_d : Int × Unit → Option ((ByteArray × Unit) × Unit) := sDecimal_F.d V sDecimal_c
noncomputable abbrev sDecimal_g : Sig := sDecimal_F.t.sig sDecimal_d
noncomputable def sDecimal_D9 : Int × Bool × ByteArray × Int × Unit → Option ((ByteArray × Unit) × Unit) := sDecimal_F.D V sDecimal_c 9
noncomputable def sDecimal_D5 : Int × Bool × ByteArray × Unit → Option ((ByteArray × Unit) × Unit) := sDecimal_F.D V sDecimal_c 5
theorem sDecimal_b (x1 : Int) : sDecimal_d (x1, ()) = cnd (ieq x1 (0 : Int)) (some (((bs [48]), ()), ())) (sDecimal_D5 (x1, ((ilt x1 (0 : Int)), ((bs []), ())))) := (FnD.eq V sDecimal_c sDecimal_F (x1, ())).trans (by kernel_rfl)
theorem sDecimal_q9 (x1 : Int) (x2 : Bool) (x3 : ByteArray) (x4 : Int) : sDecimal_D9 (x1, (x2, (x3, (x4, ())))) = bnd (sL01Figure_d (x4, ())) (fun r4 => (cnd (fits ((ssz (sof (r4.1.1 :: ([] : List Int)))) + (ssz x3)) 1) (cnd (nz (10 : Int)) (sDecimal_D5 ((iquo .i64 x1 (10 : Int)), (x2, ((scat (sof (r4.1.1 :: ([] : List Int))) x3), ())))) none) none)) := (FnD.eqC V sDecimal_c sDecimal_F 9 (x1, (x2, (x3, (x4, ()))))).trans (by kernel_rfl)
theorem sDecimal_q5 (x1 : Int) (x2 : Bool) (x3 : ByteArray) : sDecimal_D5 (x1, (x2, (x3, ()))) = cnd (ine x1 (0 : Int)) (cnd (nz (10 : Int)) (cnd (ilt (irem x1 (10 : Int)) (0 : Int)) (sDecimal_D9 (x1, (x2, (x3, ((ineg .i64 (irem x1 (10 : Int))), ()))))) (sDecimal_D9 (x1, (x2, (x3, ((irem x1 (10 : Int)), ())))))) none) (cnd x2 (cnd (fits ((ssz (bs [45])) + (ssz x3)) 1) (some (((scat (bs [45]) x3), ()), ())) none) (some ((x3, ()), ()))) := (FnD.eqC V sDecimal_c sDecimal_F 5 (x1, (x2, (x3, ())))).trans (by kernel_rfl)
theorem sDecimal_k : CallsOk Tryd.prog gls gvs 63 sDecimal_g := FnD.ok (F := sDecimal_F) (cs := sDecimal_c) V_ok (kC sL01Figure_k kN) Tryd.func63 (by decide) (by kernel_rfl)
-- spec.l28Num
noncomputable def sL28Num_F : FnD := { f := 26, fn := Tryd.f26, ps := [pa (.int .i64)], rs := [rt .str] }
noncomputable def sL28Num_c : List (Nat × Sig) := [(63, sDecimal_g)]
noncomputable def sL28Num_d : Int × Unit → Option ((ByteArray × Unit) × Unit) := sL28Num_F.d V sL28Num_c
noncomputable abbrev sL28Num_g : Sig := sL28Num_F.t.sig sL28Num_d
theorem sL28Num_b (x1 : Int) : sL28Num_d (x1, ()) = cnd (ilt x1 (0 : Int)) (some (((bs [48]), ()), ())) (bnd (sDecimal_d (x1, ())) (fun r1 => (some ((r1.1.1, ()), ())))) := (FnD.eq V sL28Num_c sL28Num_F (x1, ())).trans (by kernel_rfl)
theorem sL28Num_k : CallsOk Tryd.prog gls gvs 26 sL28Num_g := FnD.ok (F := sL28Num_F) (cs := sL28Num_c) V_ok (kC sDecimal_k kN) Tryd.func26 (by decide) (by kernel_rfl)
-- spec.ShowClient
noncomputable def sShowClient_F : FnD := { f := 7, fn := Tryd.f7, ps := [pa TClient], rs := [rt .str], joins := [4, 7], cuts := [(4, [.val 3 .str .sh, .box 1 TClient .sh, .ptr 1 1 0]), (7, [.val 3 .str .sh, .val 5 .str .sh, .box 1 TClient .sh, .ptr 1 1 0])] }
noncomputable def sShowClient_c : List (Nat × Sig) := [(25, sHeadRoot_g), (24, sHex_g), (26, sL28Num_g)]
noncomputable def sShowClient_d : tClient × Unit → Option ((ByteArray × Unit) × Unit) := sShowClient_F.d V sShowClient_c
noncomputable abbrev sShowClient_g : Sig := sShowClient_F.t.sig sShowClient_d
noncomputable def sShowClient_D4 : ByteArray × tClient × Unit → Option ((ByteArray × Unit) × Unit) := sShowClient_F.D V sShowClient_c 4
noncomputable def sShowClient_D7 : ByteArray × ByteArray × tClient × Unit → Option ((ByteArray × Unit) × Unit) := sShowClient_F.D V sShowClient_c 7
theorem sShowClient_b (x1 : tClient) : sShowClient_d (x1, ()) = bnd (sHeadRoot_d (x1.1, ())) (fun r1 => (bnd (sHex_d (r1.1.1, ())) (fun r2 => (cnd (igt (ssz r2.1.1) (8 : Int)) (cnd (inb2 (0 : Int) (8 : Int) (ssz r2.1.1)) (sShowClient_D4 ((ssub r2.1.1 (0 : Int) (8 : Int)), (x1, ()))) none) (sShowClient_D4 (r2.1.1, (x1, ()))))))) := (FnD.eq V sShowClient_c sShowClient_F (x1, ())).trans (by kernel_rfl)
theorem sShowClient_q4 (x1 : ByteArray) (x2 : tClient) : sShowClient_D4 (x1, (x2, ())) = cnd x2.2.2.2.1 (sShowClient_D7 (x1, ((bs [110, 101, 120, 116]), (x2, ())))) (sShowClient_D7 (x1, ((bs [45]), (x2, ())))) := (FnD.eqC V sShowClient_c sShowClient_F 4 (x1, (x2, ()))).trans (by kernel_rfl)
theorem sShowClient_q7 (x1 : ByteArray) (x2 : ByteArray) (x3 : tClient) : sShowClient_D7 (x1, (x2, (x3, ()))) = bnd (sL28Num_d (x3.1.1, ())) (fun r3 => (cnd (fits ((ssz (bs [102, 105, 110, 97, 108, 32])) + (ssz r3.1.1)) 1) (cnd (fits ((ssz (scat (bs [102, 105, 110, 97, 108, 32]) r3.1.1)) + (ssz (bs [32]))) 1) (cnd (fits ((ssz (scat (scat (bs [102, 105, 110, 97, 108, 32]) r3.1.1) (bs [32]))) + (ssz x1)) 1) (cnd (fits ((ssz (scat (scat (scat (bs [102, 105, 110, 97, 108, 32]) r3.1.1) (bs [32])) x1)) + (ssz (bs [32]))) 1) (cnd (fits ((ssz (scat (scat (scat (scat (bs [102, 105, 110, 97, 108, 32]) r3.1.1) (bs [32])) x1) (bs [32]))) + (ssz x2)) 1) (cnd (fits ((ssz (scat (scat (scat (scat (scat (bs [102, 105, 110, 97, 108, 32]) r3.1.1) (bs [32])) x1) (bs [32])) x2)) + (ssz (bs [10]))) 1) (some (((scat (scat (scat (scat (scat (scat (bs [102, 105, 110, 97, 108, 32]) r3.1.1) (bs [32])) x1) (bs [32])) x2) (bs [10])), ()), ())) none) none) none) none) none) none)) := (FnD.eqC V sShowClient_c sShowClient_F 7 (x1, (x2, (x3, ())))).trans (by kernel_rfl)
theorem sShowClient_k : CallsOk Tryd.prog gls gvs 7 sShowClient_g := FnD.ok (F := sShowClient_F) (cs := sShowClient_c) V_ok (kC sHeadRoot_k (kC sHex_k (kC sL28Num_k kN))) Tryd.func7 (by decide) (by kernel_rfl)
-- impl.isSlot
noncomputable def iIsSlot_F : FnD := { f := 95, fn := Tryd.f95, ps := [pa (.int .i64)], rs := [rt .bool] }
noncomputable def iIsSlot_c : List (Nat × Sig) := []
noncomputable def iIsSlot_d : Int × Unit → Option ((Bool × Unit) × Unit) := iIsSlot_F.d V iIsSlot_c
noncomputable abbrev iIsSlot_g : Sig := iIsSlot_F.t.sig iIsSlot_d
theorem iIsSlot_b (x1 : Int) : iIsSlot_d (x1, ()) = cnd (ige x1 (0 : Int)) (some (((ile x1 (10000 : Int)), ()), ())) (some ((false, ()), ())) := (FnD.eq V iIsSlot_c iIsSlot_F (x1, ())).trans (by kernel_rfl)
theorem iIsSlot_k : CallsOk Tryd.prog gls gvs 95 iIsSlot_g := FnD.ok (F := iIsSlot_F) (cs := iIsSlot_c) V_ok kN Tryd.func95 (by decide) (by kernel_rfl)
-- impl.isDigest
noncomputable def iIsDigest_F : FnD := { f := 41, fn := Tryd.f41, ps := [pa .str], rs := [rt .bool] }
noncomputable def iIsDigest_c : List (Nat × Sig) := []
noncomputable def iIsDigest_d : ByteArray × Unit → Option ((Bool × Unit) × Unit) := iIsDigest_F.d V iIsDigest_c
noncomputable abbrev iIsDigest_g : Sig := iIsDigest_F.t.sig iIsDigest_d
theorem iIsDigest_b (x1 : ByteArray) : iIsDigest_d (x1, ()) = some (((ieq (ssz x1) (32 : Int)), ()), ()) := (FnD.eq V iIsDigest_c iIsDigest_F (x1, ())).trans (by kernel_rfl)
theorem iIsDigest_k : CallsOk Tryd.prog gls gvs 41 iIsDigest_g := FnD.ok (F := iIsDigest_F) (cs := iIsDigest_c) V_ok kN Tryd.func41 (by decide) (by kernel_rfl)
-- impl.HeadOk
noncomputable def iHeadOk_F : FnD := { f := 66, fn := Tryd.f66, ps := [pa THead], rs := [rt .bool] }
noncomputable def iHeadOk_c : List (Nat × Sig) := [(95, iIsSlot_g), (41, iIsDigest_g)]
noncomputable def iHeadOk_d : tHead × Unit → Option ((Bool × Unit) × Unit) := iHeadOk_F.d V iHeadOk_c
noncomputable abbrev iHeadOk_g : Sig := iHeadOk_F.t.sig iHeadOk_d
theorem iHeadOk_b (x1 : tHead) : iHeadOk_d (x1, ()) = bnd (iIsSlot_d (x1.1, ())) (fun r1 => (cnd r1.1.1 (bnd (iIsDigest_d (x1.2.1, ())) (fun r2 => (cnd r2.1.1 (bnd (iIsDigest_d (x1.2.2.1, ())) (fun r3 => (cnd r3.1.1 (bnd (iIsDigest_d (x1.2.2.2.1, ())) (fun r4 => (some ((r4.1.1, ()), ())))) (some ((false, ()), ()))))) (some ((false, ()), ()))))) (some ((false, ()), ())))) := (FnD.eq V iHeadOk_c iHeadOk_F (x1, ())).trans (by kernel_rfl)
theorem iHeadOk_k : CallsOk Tryd.prog gls gvs 66 iHeadOk_g := FnD.ok (F := iHeadOk_F) (cs := iHeadOk_c) V_ok (kC iIsSlot_k (kC iIsDigest_k kN)) Tryd.func66 (by decide) (by kernel_rfl)
-- impl.varText
noncomputable def iVarText_F : FnD := { f := 68, fn := Tryd.f68, ps := [pa (.int .i64)], rs := [rt .str], cuts := [(2, [.val 0 (.int .i64) .sh, .val 3 (.sl (.int .u8)) (.own 0 .sh)])] }
noncomputable def iVarText_c : List (Nat × Sig) := []
noncomputable def iVarText_d : Int × Unit → Option ((ByteArray × Unit) × Unit) := iVarText_F.d V iVarText_c
noncomputable abbrev iVarText_g : Sig := iVarText_F.t.sig iVarText_d
noncomputable def iVarText_D2 : Int × (List Int) × Unit → Option ((ByteArray × Unit) × Unit) := iVarText_F.D V iVarText_c 2
theorem iVarText_b (x1 : Int) : iVarText_d (x1, ()) = iVarText_D2 (x1, (([] : List Int), ())) := (FnD.eq V iVarText_c iVarText_F (x1, ())).trans (by kernel_rfl)
theorem iVarText_q2 (x1 : Int) (x2 : (List Int)) : iVarText_D2 (x1, (x2, ())) = cnd (igt x1 (127 : Int)) (cnd (nz (128 : Int)) (cnd (fits ((len x2) + (len ((iconv .u8 (iadd .i64 (128 : Int) (irem x1 (128 : Int)))) :: ([] : List Int)))) 1) (cnd (nz (128 : Int)) (iVarText_D2 ((iquo .i64 x1 (128 : Int)), ((app x2 ((iconv .u8 (iadd .i64 (128 : Int) (irem x1 (128 : Int)))) :: ([] : List Int))), ()))) none) none) none) (cnd (fits ((len x2) + (len ((iconv .u8 x1) :: ([] : List Int)))) 1) (some (((sof (app x2 ((iconv .u8 x1) :: ([] : List Int)))), ()), ())) none) := (FnD.eqC V iVarText_c iVarText_F 2 (x1, (x2, ()))).trans (by kernel_rfl)
theorem iVarText_k : CallsOk Tryd.prog gls gvs 68 iVarText_g := FnD.ok (F := iVarText_F) (cs := iVarText_c) V_ok kN Tryd.func68 (by decide) (by kernel_rfl)
-- impl.KeccakPad
noncomputable def iKeccakPad_F : FnD := { f := 128, fn := Tryd.f128, ps := [pa .str], rs := [rt .str] }
noncomputable def iKeccakPad_c : List (Nat × Sig) := [(149, g_strings_Repeat_g)]
noncomputable def iKeccakPad_d : ByteArray × Unit → Option ((ByteArray × Unit) × Unit) := iKeccakPad_F.d V iKeccakPad_c
noncomputable abbrev iKeccakPad_g : Sig := iKeccakPad_F.t.sig iKeccakPad_d
theorem iKeccakPad_b (x1 : ByteArray) : iKeccakPad_d (x1, ()) = cnd (nz (136 : Int)) (cnd (fits ((ssz x1) + (ssz (bs [1]))) 1) (bnd (g_strings_Repeat_d ((bs [0]), ((isub .i64 (135 : Int) (irem (ssz x1) (136 : Int))), ()))) (fun r1 => (cnd (fits ((ssz (scat x1 (bs [1]))) + (ssz r1.1.1)) 1) (cnd (inb (isub .i64 (len (sbytes (scat (scat x1 (bs [1])) r1.1.1))) (1 : Int)) (len (sbytes (scat (scat x1 (bs [1])) r1.1.1)))) (cnd (inb (isub .i64 (len (sbytes (scat (scat x1 (bs [1])) r1.1.1))) (1 : Int)) (len (sbytes (scat (scat x1 (bs [1])) r1.1.1)))) (some (((sof (upd (sbytes (scat (scat x1 (bs [1])) r1.1.1)) (isub .i64 (len (sbytes (scat (scat x1 (bs [1])) r1.1.1))) (1 : Int)) (ior .u8 (rd (0 : Int) (sbytes (scat (scat x1 (bs [1])) r1.1.1)) (isub .i64 (len (sbytes (scat (scat x1 (bs [1])) r1.1.1))) (1 : Int))) (128 : Int)))), ()), ())) none) none) none))) none) none := (FnD.eq V iKeccakPad_c iKeccakPad_F (x1, ())).trans (by kernel_rfl)
theorem iKeccakPad_k : CallsOk Tryd.prog gls gvs 128 iKeccakPad_g := FnD.ok (F := iKeccakPad_F) (cs := iKeccakPad_c) V_ok (kC g_strings_Repeat_k kN) Tryd.func128 (by decide) (by kernel_rfl)
-- impl.wordAt
noncomputable def iWordAt_F : FnD := { f := 129, fn := Tryd.f129, ps := [pa .str, pa (.int .i64)], rs := [rt (.int .u64)], cuts := [(3, [.val 0 .str .sh, .val 1 (.int .i64) .sh, .val 5 (.int .u64) .sh, .val 6 (.int .i64) .sh])] }
noncomputable def iWordAt_c : List (Nat × Sig) := []
noncomputable def iWordAt_d : ByteArray × Int × Unit → Option ((Int × Unit) × Unit) := iWordAt_F.d V iWordAt_c
noncomputable abbrev iWordAt_g : Sig := iWordAt_F.t.sig iWordAt_d
noncomputable def iWordAt_D3 : ByteArray × Int × Int × Int × Unit → Option ((Int × Unit) × Unit) := iWordAt_F.D V iWordAt_c 3
theorem iWordAt_b (x1 : ByteArray) (x2 : Int) : iWordAt_d (x1, (x2, ())) = iWordAt_D3 (x1, (x2, ((0 : Int), ((7 : Int), ())))) := (FnD.eq V iWordAt_c iWordAt_F (x1, (x2, ()))).trans (by kernel_rfl)
theorem iWordAt_q3 (x1 : ByteArray) (x2 : Int) (x3 : Int) (x4 : Int) : iWordAt_D3 (x1, (x2, (x3, (x4, ())))) = cnd (ige x4 (0 : Int)) (cnd (nn (8 : Int)) (cnd (inb (iadd .i64 x2 x4) (ssz x1)) (iWordAt_D3 (x1, (x2, ((ior .u64 (ishl .u64 x3 (8 : Int)) (iconv .u64 (sat x1 (iadd .i64 x2 x4)))), ((isub .i64 x4 (1 : Int)), ()))))) none) none) (some ((x3, ()), ())) := (FnD.eqC V iWordAt_c iWordAt_F 3 (x1, (x2, (x3, (x4, ()))))).trans (by kernel_rfl)
theorem iWordAt_k : CallsOk Tryd.prog gls gvs 129 iWordAt_g := FnD.ok (F := iWordAt_F) (cs := iWordAt_c) V_ok kN Tryd.func129 (by decide) (by kernel_rfl)
-- math/bits.RotateLeft64
noncomputable def g_math_bits_RotateLeft64_F : FnD := { f := 173, fn := Tryd.f173, ps := [pa (.int .u64), pa (.int .i64)], rs := [rt (.int .u64)] }
noncomputable def g_math_bits_RotateLeft64_c : List (Nat × Sig) := []
noncomputable def g_math_bits_RotateLeft64_d : Int × Int × Unit → Option ((Int × Unit) × Unit) := g_math_bits_RotateLeft64_F.d V g_math_bits_RotateLeft64_c
noncomputable abbrev g_math_bits_RotateLeft64_g : Sig := g_math_bits_RotateLeft64_F.t.sig g_math_bits_RotateLeft64_d
theorem g_math_bits_RotateLeft64_b (x1 : Int) (x2 : Int) : g_math_bits_RotateLeft64_d (x1, (x2, ())) = cnd (nn (iand .u64 (iconv .u64 x2) (63 : Int))) (cnd (nn (isub .u64 (64 : Int) (iand .u64 (iconv .u64 x2) (63 : Int)))) (some (((ior .u64 (ishl .u64 x1 (iand .u64 (iconv .u64 x2) (63 : Int))) (ishr .u64 x1 (isub .u64 (64 : Int) (iand .u64 (iconv .u64 x2) (63 : Int))))), ()), ())) none) none := (FnD.eq V g_math_bits_RotateLeft64_c g_math_bits_RotateLeft64_F (x1, (x2, ()))).trans (by kernel_rfl)
theorem g_math_bits_RotateLeft64_k : CallsOk Tryd.prog gls gvs 173 g_math_bits_RotateLeft64_g := FnD.ok (F := g_math_bits_RotateLeft64_F) (cs := g_math_bits_RotateLeft64_c) V_ok kN Tryd.func173 (by decide) (by kernel_rfl)
-- (*impl.sponge).round
noncomputable def iSponge_round_F : FnD := { f := 150, fn := Tryd.f150, ps := [⟨(.arr 25 (.int .u64)), .sh, true, true, none⟩, pa (.int .i64)], rs := [], cuts := [(2, [.val 1 (.int .i64) .sh, .val 12 (.int .i64) .sh, .box 0 (.arr 25 (.int .u64)) .sh, .box 4 (.arr 5 (.int .u64)) .sh, .ptr 0 0 0, .ptr 4 4 0]), (11, [.val 1 (.int .i64) .sh, .val 7 (.int .i64) .sh, .val 51 (.int .i64) .sh, .val 54 (.int .i64) .sh, .box 0 (.arr 25 (.int .u64)) .sh, .box 4 (.arr 5 (.int .u64)) .sh, .box 6 (.arr 25 (.int .u64)) .sh, .ptr 0 0 0, .ptr 4 4 0, .ptr 6 6 0]), (8, [.val 1 (.int .i64) .sh, .val 51 (.int .i64) .sh, .box 0 (.arr 25 (.int .u64)) .sh, .box 4 (.arr 5 (.int .u64)) .sh, .box 6 (.arr 25 (.int .u64)) .sh, .ptr 0 0 0, .ptr 4 4 0, .ptr 6 6 0]), (21, [.val 1 (.int .i64) .sh, .val 10 (.int .i64) .sh, .val 98 (.int .i64) .sh, .val 101 (.int .i64) .sh, .box 0 (.arr 25 (.int .u64)) .sh, .box 6 (.arr 25 (.int .u64)) .sh, .ptr 0 0 0, .ptr 6 6 0]), (18, [.val 1 (.int .i64) .sh, .val 98 (.int .i64) .sh, .box 0 (.arr 25 (.int .u64)) .sh, .box 6 (.arr 25 (.int .u64)) .sh, .ptr 0 0 0, .ptr 6 6 0])] }
noncomputable def iSponge_round_c : List (Nat × Sig) := [(173, g_math_bits_RotateLeft64_g)]
noncomputable def iSponge_round_d : (List Int) × Int × Unit → Option ((Unit) × (List Int) × Unit) := iSponge_round_F.d V iSponge_round_c
noncomputable abbrev iSponge_round_g : Sig := iSponge_round_F.t.sig iSponge_round_d
noncomputable def iSponge_round_D2 : Int × Int × (List Int) × (List Int) × Unit → Option ((Unit) × (List Int) × Unit) := iSponge_round_F.D V iSponge_round_c 2
noncomputable def iSponge_round_D11 : Int × Int × Int × Int × (List Int) × (List Int) × (List Int) × Unit → Option ((Unit) × (List Int) × Unit) := iSponge_round_F.D V iSponge_round_c 11
noncomputable def iSponge_round_D8 : Int × Int × (List Int) × (List Int) × (List Int) × Unit → Option ((Unit) × (List Int) × Unit) := iSponge_round_F.D V iSponge_round_c 8
noncomputable def iSponge_round_D21 : Int × Int × Int × Int × (List Int) × (List Int) × Unit → Option ((Unit) × (List Int) × Unit) := iSponge_round_F.D V iSponge_round_c 21
noncomputable def iSponge_round_D18 : Int × Int × (List Int) × (List Int) × Unit → Option ((Unit) × (List Int) × Unit) := iSponge_round_F.D V iSponge_round_c 18
theorem iSponge_round_b (x1 : (List Int)) (x2 : Int) : iSponge_round_d (x1, (x2, ())) = iSponge_round_D2 (x2, ((0 : Int), (x1, (((0 : Int) :: ((0 : Int) :: ((0 : Int) :: ((0 : Int) :: ((0 : Int) :: ([] : List Int)))))), ())))) := (FnD.eq V iSponge_round_c iSponge_round_F (x1, (x2, ()))).trans (by kernel_rfl)
theorem iSponge_round_q2 (x1 : Int) (x2 : Int) (x3 : (List Int)) (x4 : (List Int)) : iSponge_round_D2 (x1, (x2, (x3, (x4, ())))) = cnd (ilt x2 (5 : Int)) (cnd (inb x2 (25 : Int)) (cnd (inb (iadd .i64 x2 (5 : Int)) (25 : Int)) (cnd (inb (iadd .i64 x2 (10 : Int)) (25 : Int)) (cnd (inb (iadd .i64 x2 (15 : Int)) (25 : Int)) (cnd (inb (iadd .i64 x2 (20 : Int)) (25 : Int)) (cnd (inb x2 (5 : Int)) (iSponge_round_D2 (x1, ((iadd .i64 x2 (1 : Int)), (x3, ((upd x4 x2 (ixor .u64 (ixor .u64 (ixor .u64 (ixor .u64 (rd (0 : Int) x3 x2) (rd (0 : Int) x3 (iadd .i64 x2 (5 : Int)))) (rd (0 : Int) x3 (iadd .i64 x2 (10 : Int)))) (rd (0 : Int) x3 (iadd .i64 x2 (15 : Int)))) (rd (0 : Int) x3 (iadd .i64 x2 (20 : Int))))), ()))))) none) none) none) none) none) none) (iSponge_round_D8 (x1, ((0 : Int), (x3, (x4, (((0 : Int) :: ((0 : Int) :: ((0 : Int) :: ((0 : Int) :: ((0 : Int) :: ((0 : Int) :: ((0 : Int) :: ((0 : Int) :: ((0 : Int) :: ((0 : Int) :: ((0 : Int) :: ((0 : Int) :: ((0 : Int) :: ((0 : Int) :: ((0 : Int) :: ((0 : Int) :: ((0 : Int) :: ((0 : Int) :: ((0 : Int) :: ((0 : Int) :: ((0 : Int) :: ((0 : Int) :: ((0 : Int) :: ((0 : Int) :: ((0 : Int) :: ([] : List Int)))))))))))))))))))))))))), ())))))) := (FnD.eqC V iSponge_round_c iSponge_round_F 2 (x1, (x2, (x3, (x4, ()))))).trans (by kernel_rfl)
theorem iSponge_round_q11 (x1 : Int) (x2 : Int) (x3 : Int) (x4 : Int) (x5 : (List Int)) (x6 : (List Int)) (x7 : (List Int)) : iSponge_round_D11 (x1, (x2, (x3, (x4, (x5, (x6, (x7, ()))))))) = cnd (ilt x4 (5 : Int)) (cnd (nz (5 : Int)) (cnd (inb (irem (iadd .i64 x4 (4 : Int)) (5 : Int)) (5 : Int)) (cnd (nz (5 : Int)) (cnd (inb (irem (iadd .i64 x4 (1 : Int)) (5 : Int)) (5 : Int)) (bnd (g_math_bits_RotateLeft64_d ((rd (0 : Int) x6 (irem (iadd .i64 x4 (1 : Int)) (5 : Int))), ((1 : Int), ()))) (fun r7 => (cnd (nz (5 : Int)) (cnd (inb (iadd .i64 x4 (imul .i64 (5 : Int) x2)) (25 : Int)) (cnd (inb (iadd .i64 x4 (imul .i64 (5 : Int) x2)) (25 : Int)) (bnd (g_math_bits_RotateLeft64_d ((ixor .u64 (rd (0 : Int) x5 (iadd .i64 x4 (imul .i64 (5 : Int) x2))) (ixor .u64 (rd (0 : Int) x6 (irem (iadd .i64 x4 (4 : Int)) (5 : Int))) r7.1.1)), ((rd (0 : Int) G_impl_turns (iadd .i64 x4 (imul .i64 (5 : Int) x2))), ()))) (fun r8 => (cnd (inb (iadd .i64 x2 (imul .i64 (5 : Int) (irem (iadd .i64 (imul .i64 (2 : Int) x4) (imul .i64 (3 : Int) x2)) (5 : Int)))) (25 : Int)) (iSponge_round_D11 (x1, (x2, (x3, ((iadd .i64 x4 (1 : Int)), (x5, (x6, ((upd x7 (iadd .i64 x2 (imul .i64 (5 : Int) (irem (iadd .i64 (imul .i64 (2 : Int) x4) (imul .i64 (3 : Int) x2)) (5 : Int)))) r8.1.1), ())))))))) none))) none) none) none))) none) none) none) none) (iSponge_round_D8 (x1, ((iadd .i64 x3 (1 : Int)), (x5, (x6, (x7, ())))))) := (FnD.eqC V iSponge_round_c iSponge_round_F 11 (x1, (x2, (x3, (x4, (x5, (x6, (x7, ())))))))).trans (by kernel_rfl)
theorem iSponge_round_q8 (x1 : Int) (x2 : Int) (x3 : (List Int)) (x4 : (List Int)) (x5 : (List Int)) : iSponge_round_D8 (x1, (x2, (x3, (x4, (x5, ()))))) = cnd (ilt x2 (5 : Int)) (iSponge_round_D11 (x1, (x2, (x2, ((0 : Int), (x3, (x4, (x5, ())))))))) (iSponge_round_D18 (x1, ((0 : Int), (x3, (x5, ()))))) := (FnD.eqC V iSponge_round_c iSponge_round_F 8 (x1, (x2, (x3, (x4, (x5, ())))))).trans (by kernel_rfl)
theorem iSponge_round_q21 (x1 : Int) (x2 : Int) (x3 : Int) (x4 : Int) (x5 : (List Int)) (x6 : (List Int)) : iSponge_round_D21 (x1, (x2, (x3, (x4, (x5, (x6, ())))))) = cnd (ilt x4 (5 : Int)) (cnd (inb (iadd .i64 x4 (imul .i64 (5 : Int) x2)) (25 : Int)) (cnd (nz (5 : Int)) (cnd (inb (iadd .i64 (irem (iadd .i64 x4 (1 : Int)) (5 : Int)) (imul .i64 (5 : Int) x2)) (25 : Int)) (cnd (nz (5 : Int)) (cnd (inb (iadd .i64 (irem (iadd .i64 x4 (2 : Int)) (5 : Int)) (imul .i64 (5 : Int) x2)) (25 : Int)) (cnd (inb (iadd .i64 x4 (imul .i64 (5 : Int) x2)) (25 : Int)) (iSponge_round_D21 (x1, (x2, (x3, ((iadd .i64 x4 (1 : Int)), ((upd x5 (iadd .i64 x4 (imul .i64 (5 : Int) x2)) (ixor .u64 (rd (0 : Int) x6 (iadd .i64 x4 (imul .i64 (5 : Int) x2))) (iand .u64 (inot .u64 (rd (0 : Int) x6 (iadd .i64 (irem (iadd .i64 x4 (1 : Int)) (5 : Int)) (imul .i64 (5 : Int) x2)))) (rd (0 : Int) x6 (iadd .i64 (irem (iadd .i64 x4 (2 : Int)) (5 : Int)) (imul .i64 (5 : Int) x2)))))), (x6, ()))))))) none) none) none) none) none) none) (iSponge_round_D18 (x1, ((iadd .i64 x3 (1 : Int)), (x5, (x6, ()))))) := (FnD.eqC V iSponge_round_c iSponge_round_F 21 (x1, (x2, (x3, (x4, (x5, (x6, ()))))))).trans (by kernel_rfl)
theorem iSponge_round_q18 (x1 : Int) (x2 : Int) (x3 : (List Int)) (x4 : (List Int)) : iSponge_round_D18 (x1, (x2, (x3, (x4, ())))) = cnd (ilt x2 (5 : Int)) (iSponge_round_D21 (x1, (x2, (x2, ((0 : Int), (x3, (x4, ()))))))) (cnd (inb (0 : Int) (25 : Int)) (cnd (inb x1 (24 : Int)) (cnd (inb (0 : Int) (25 : Int)) (some ((), ((upd x3 (0 : Int) (ixor .u64 (rd (0 : Int) x3 (0 : Int)) (rd (0 : Int) G_impl_roundConstants x1))), ()))) none) none) none) := (FnD.eqC V iSponge_round_c iSponge_round_F 18 (x1, (x2, (x3, (x4, ()))))).trans (by kernel_rfl)
theorem iSponge_round_k : CallsOk Tryd.prog gls gvs 150 iSponge_round_g := FnD.ok (F := iSponge_round_F) (cs := iSponge_round_c) V_ok (kC g_math_bits_RotateLeft64_k kN) Tryd.func150 (by decide) (by kernel_rfl)
-- (*impl.sponge).rounds
noncomputable def iSponge_rounds_F : FnD := { f := 130, fn := Tryd.f130, ps := [⟨(.arr 25 (.int .u64)), .sh, true, true, none⟩], rs := [], cuts := [(1, [.val 3 (.int .i64) .sh, .box 0 (.arr 25 (.int .u64)) .sh, .ptr 0 0 0])] }
noncomputable def iSponge_rounds_c : List (Nat × Sig) := [(150, iSponge_round_g)]
noncomputable def iSponge_rounds_d : (List Int) × Unit → Option ((Unit) × (List Int) × Unit) := iSponge_rounds_F.d V iSponge_rounds_c
noncomputable abbrev iSponge_rounds_g : Sig := iSponge_rounds_F.t.sig iSponge_rounds_d
noncomputable def iSponge_rounds_D1 : Int × (List Int) × Unit → Option ((Unit) × (List Int) × Unit) := iSponge_rounds_F.D V iSponge_rounds_c 1
theorem iSponge_rounds_b (x1 : (List Int)) : iSponge_rounds_d (x1, ()) = iSponge_rounds_D1 ((0 : Int), (x1, ())) := (FnD.eq V iSponge_rounds_c iSponge_rounds_F (x1, ())).trans (by kernel_rfl)
theorem iSponge_rounds_q1 (x1 : Int) (x2 : (List Int)) : iSponge_rounds_D1 (x1, (x2, ())) = cnd (ilt x1 (24 : Int)) (bnd (iSponge_round_d (x2, (x1, ()))) (fun r2 => (iSponge_rounds_D1 ((iadd .i64 x1 (1 : Int)), (r2.2.1, ()))))) (some ((), (x2, ()))) := (FnD.eqC V iSponge_rounds_c iSponge_rounds_F 1 (x1, (x2, ()))).trans (by kernel_rfl)
theorem iSponge_rounds_k : CallsOk Tryd.prog gls gvs 130 iSponge_rounds_g := FnD.ok (F := iSponge_rounds_F) (cs := iSponge_rounds_c) V_ok (kC iSponge_round_k kN) Tryd.func130 (by decide) (by kernel_rfl)
-- impl.wordBytes
noncomputable def iWordBytes_F : FnD := { f := 151, fn := Tryd.f151, ps := [⟨(.sl (.int .u8)), (.own 0 .sh), false, false, none⟩, pa (.int .u64)], rs := [⟨(.sl (.int .u8)), (.own 0 .sh), false⟩], cuts := [(2, [.val 0 (.sl (.int .u8)) (.own 0 .sh), .val 1 (.int .u64) .sh, .val 5 (.int .i64) .sh])] }
noncomputable def iWordBytes_c : List (Nat × Sig) := []
noncomputable def iWordBytes_d : (List Int) × Int × Unit → Option (((List Int) × Unit) × Unit) := iWordBytes_F.d V iWordBytes_c
noncomputable abbrev iWordBytes_g : Sig := iWordBytes_F.t.sig iWordBytes_d
noncomputable def iWordBytes_D2 : (List Int) × Int × Int × Unit → Option (((List Int) × Unit) × Unit) := iWordBytes_F.D V iWordBytes_c 2
theorem iWordBytes_b (x1 : (List Int)) (x2 : Int) : iWordBytes_d (x1, (x2, ())) = iWordBytes_D2 (x1, (x2, ((0 : Int), ()))) := (FnD.eq V iWordBytes_c iWordBytes_F (x1, (x2, ()))).trans (by kernel_rfl)
theorem iWordBytes_q2 (x1 : (List Int)) (x2 : Int) (x3 : Int) : iWordBytes_D2 (x1, (x2, (x3, ()))) = cnd (ilt x3 (8 : Int)) (cnd (fits ((len x1) + (len ((iconv .u8 x2) :: ([] : List Int)))) 1) (cnd (nn (8 : Int)) (iWordBytes_D2 ((app x1 ((iconv .u8 x2) :: ([] : List Int))), ((ishr .u64 x2 (8 : Int)), ((iadd .i64 x3 (1 : Int)), ())))) none) none) (some ((x1, ()), ())) := (FnD.eqC V iWordBytes_c iWordBytes_F 2 (x1, (x2, (x3, ())))).trans (by kernel_rfl)
theorem iWordBytes_k : CallsOk Tryd.prog gls gvs 151 iWordBytes_g := FnD.ok (F := iWordBytes_F) (cs := iWordBytes_c) V_ok kN Tryd.func151 (by decide) (by kernel_rfl)
-- (*impl.sponge).text
noncomputable def iSponge_text_F : FnD := { f := 131, fn := Tryd.f131, ps := [⟨(.arr 25 (.int .u64)), .sh, true, true, none⟩], rs := [rt .str], cuts := [(3, [.val 3 (.sl (.int .u8)) (.own 0 .sh), .val 8 (.int .i64) .sh, .box 0 (.arr 25 (.int .u64)) .sh, .ptr 0 0 0, .ptr 7 0 0])] }
noncomputable def iSponge_text_c : List (Nat × Sig) := [(151, iWordBytes_g)]
noncomputable def iSponge_text_d : (List Int) × Unit → Option ((ByteArray × Unit) × (List Int) × Unit) := iSponge_text_F.d V iSponge_text_c
noncomputable abbrev iSponge_text_g : Sig := iSponge_text_F.t.sig iSponge_text_d
noncomputable def iSponge_text_D3 : (List Int) × Int × (List Int) × Unit → Option ((ByteArray × Unit) × (List Int) × Unit) := iSponge_text_F.D V iSponge_text_c 3
theorem iSponge_text_b (x1 : (List Int)) : iSponge_text_d (x1, ()) = cnd (both (inb2 (0 : Int) (0 : Int) (200 : Int)) (fits (200 : Int) 1)) (iSponge_text_D3 ((rep (0 : Int) (0 : Int)), ((0 : Int), (x1, ())))) none := (FnD.eq V iSponge_text_c iSponge_text_F (x1, ())).trans (by kernel_rfl)
theorem iSponge_text_q3 (x1 : (List Int)) (x2 : Int) (x3 : (List Int)) : iSponge_text_D3 (x1, (x2, (x3, ()))) = cnd (ilt x2 (25 : Int)) (cnd (inb x2 (25 : Int)) (bnd (iWordBytes_d (x1, ((rd (0 : Int) x3 x2), ()))) (fun r3 => (iSponge_text_D3 (r3.1.1, ((iadd .i64 x2 (1 : Int)), (x3, ())))))) none) (some (((sof x1), ()), (x3, ()))) := (FnD.eqC V iSponge_text_c iSponge_text_F 3 (x1, (x2, (x3, ())))).trans (by kernel_rfl)
theorem iSponge_text_k : CallsOk Tryd.prog gls gvs 131 iSponge_text_g := FnD.ok (F := iSponge_text_F) (cs := iSponge_text_c) V_ok (kC iWordBytes_k kN) Tryd.func131 (by decide) (by kernel_rfl)
-- impl.Digest
noncomputable def iDigest_F : FnD := { f := 106, fn := Tryd.f106, ps := [pa .str], rs := [rt .str], cuts := [(7, [.val 3 .str .sh, .val 5 (.int .i64) .sh, .val 15 (.int .i64) .sh, .box 4 (.arr 25 (.int .u64)) .sh, .ptr 4 4 0]), (4, [.val 3 .str .sh, .val 5 (.int .i64) .sh, .box 4 (.arr 25 (.int .u64)) .sh, .ptr 4 4 0])] }
noncomputable def iDigest_c : List (Nat × Sig) := [(128, iKeccakPad_g), (129, iWordAt_g), (130, iSponge_rounds_g), (131, iSponge_text_g)]
noncomputable def iDigest_d : ByteArray × Unit → Option ((ByteArray × Unit) × Unit) := iDigest_F.d V iDigest_c
noncomputable abbrev iDigest_g : Sig := iDigest_F.t.sig iDigest_d
noncomputable def iDigest_D7 : ByteArray × Int × Int × (List Int) × Unit → Option ((ByteArray × Unit) × Unit) := iDigest_F.D V iDigest_c 7
noncomputable def iDigest_D4 : ByteArray × Int × (List Int) × Unit → Option ((ByteArray × Unit) × Unit) := iDigest_F.D V iDigest_c 4
theorem iDigest_b (x1 : ByteArray) : iDigest_d (x1, ()) = bnd (iKeccakPad_d (x1, ())) (fun r1 => (iDigest_D4 (r1.1.1, ((0 : Int), (((0 : Int) :: ((0 : Int) :: ((0 : Int) :: ((0 : Int) :: ((0 : Int) :: ((0 : Int) :: ((0 : Int) :: ((0 : Int) :: ((0 : Int) :: ((0 : Int) :: ((0 : Int) :: ((0 : Int) :: ((0 : Int) :: ((0 : Int) :: ((0 : Int) :: ((0 : Int) :: ((0 : Int) :: ((0 : Int) :: ((0 : Int) :: ((0 : Int) :: ((0 : Int) :: ((0 : Int) :: ((0 : Int) :: ((0 : Int) :: ((0 : Int) :: ([] : List Int)))))))))))))))))))))))))), ()))))) := (FnD.eq V iDigest_c iDigest_F (x1, ())).trans (by kernel_rfl)
theorem iDigest_q7 (x1 : ByteArray) (x2 : Int) (x3 : Int) (x4 : (List Int)) : iDigest_D7 (x1, (x2, (x3, (x4, ())))) = cnd (ilt x3 (17 : Int)) (cnd (inb x3 (25 : Int)) (bnd (iWordAt_d (x1, ((iadd .i64 x2 (imul .i64 (8 : Int) x3)), ()))) (fun r4 => (cnd (inb x3 (25 : Int)) (iDigest_D7 (x1, (x2, ((iadd .i64 x3 (1 : Int)), ((upd x4 x3 (ixor .u64 (rd (0 : Int) x4 x3) r4.1.1)), ()))))) none))) none) (bnd (iSponge_rounds_d (x4, ())) (fun r4 => (iDigest_D4 (x1, ((iadd .i64 x2 (136 : Int)), (r4.2.1, ())))))) := (FnD.eqC V iDigest_c iDigest_F 7 (x1, (x2, (x3, (x4, ()))))).trans (by kernel_rfl)
theorem iDigest_q4 (x1 : ByteArray) (x2 : Int) (x3 : (List Int)) : iDigest_D4 (x1, (x2, (x3, ()))) = cnd (ilt x2 (ssz x1)) (iDigest_D7 (x1, (x2, ((0 : Int), (x3, ()))))) (bnd (iSponge_text_d (x3, ())) (fun r3 => (cnd (inb2 (0 : Int) (32 : Int) (ssz r3.1.1)) (some (((ssub r3.1.1 (0 : Int) (32 : Int)), ()), ())) none))) := (FnD.eqC V iDigest_c iDigest_F 4 (x1, (x2, (x3, ())))).trans (by kernel_rfl)
theorem iDigest_k : CallsOk Tryd.prog gls gvs 106 iDigest_g := FnD.ok (F := iDigest_F) (cs := iDigest_c) V_ok (kC iKeccakPad_k (kC iWordAt_k (kC iSponge_rounds_k (kC iSponge_text_k kN)))) Tryd.func106 (by decide) (by kernel_rfl)
-- impl.DigestPair
noncomputable def iDigestPair_F : FnD := { f := 119, fn := Tryd.f119, ps := [pa .str, pa .str], rs := [rt .str] }
noncomputable def iDigestPair_c : List (Nat × Sig) := [(106, iDigest_g)]
noncomputable def iDigestPair_d : ByteArray × ByteArray × Unit → Option ((ByteArray × Unit) × Unit) := iDigestPair_F.d V iDigestPair_c
noncomputable abbrev iDigestPair_g : Sig := iDigestPair_F.t.sig iDigestPair_d
theorem iDigestPair_b (x1 : ByteArray) (x2 : ByteArray) : iDigestPair_d (x1, (x2, ())) = cnd (fits ((ssz x1) + (ssz x2)) 1) (bnd (iDigest_d ((scat x1 x2), ())) (fun r2 => (some ((r2.1.1, ()), ())))) none := (FnD.eq V iDigestPair_c iDigestPair_F (x1, (x2, ()))).trans (by kernel_rfl)
theorem iDigestPair_k : CallsOk Tryd.prog gls gvs 119 iDigestPair_g := FnD.ok (F := iDigestPair_F) (cs := iDigestPair_c) V_ok (kC iDigest_k kN) Tryd.func119 (by decide) (by kernel_rfl)
-- impl.levelsOfTree
noncomputable def iLevelsOfTree_F : FnD := { f := 96, fn := Tryd.f96, ps := [pa (.sl .str)], rs := [⟨(.sl (.sl .str)), (.own 0 .sh), false⟩], al := true, fz := [37, 62], cuts := [(3, [.val 3 (.sl .str) (.own 0 .sh), .val 9 (.sl .str) .sh, .val 10 (.int .i64) .sh, .val 11 (.int .i64) .sh]), (7, [.val 3 (.sl .str) (.own 0 .sh)]), (13, [.val 3 (.sl .str) .sh, .val 6 (.sl (.sl .str)) (.own 0 .sh), .val 7 (.sl .str) (.own 0 .sh), .val 8 (.int .i64) .sh]), (10, [.val 3 (.sl .str) .sh, .val 6 (.sl (.sl .str)) (.own 0 .sh)])] }
noncomputable def iLevelsOfTree_c : List (Nat × Sig) := [(106, iDigest_g), (119, iDigestPair_g)]
noncomputable def iLevelsOfTree_d : (List ByteArray) × Unit → Option (((List (List ByteArray)) × Unit) × Unit) := iLevelsOfTree_F.d V iLevelsOfTree_c
noncomputable abbrev iLevelsOfTree_g : Sig := iLevelsOfTree_F.t.sig iLevelsOfTree_d
noncomputable def iLevelsOfTree_D3 : (List ByteArray) × (List ByteArray) × Int × Int × Unit → Option (((List (List ByteArray)) × Unit) × Unit) := iLevelsOfTree_F.D V iLevelsOfTree_c 3
noncomputable def iLevelsOfTree_D7 : (List ByteArray) × Unit → Option (((List (List ByteArray)) × Unit) × Unit) := iLevelsOfTree_F.D V iLevelsOfTree_c 7
noncomputable def iLevelsOfTree_D13 : (List ByteArray) × (List (List ByteArray)) × (List ByteArray) × Int × Unit → Option (((List (List ByteArray)) × Unit) × Unit) := iLevelsOfTree_F.D V iLevelsOfTree_c 13
noncomputable def iLevelsOfTree_D10 : (List ByteArray) × (List (List ByteArray)) × Unit → Option (((List (List ByteArray)) × Unit) × Unit) := iLevelsOfTree_F.D V iLevelsOfTree_c 10
theorem iLevelsOfTree_b (x1 : (List ByteArray)) : iLevelsOfTree_d (x1, ()) = iLevelsOfTree_D3 (([] : List ByteArray), (x1, ((len x1), ((0 : Int), ())))) := (FnD.eq V iLevelsOfTree_c iLevelsOfTree_F (x1, ())).trans (by kernel_rfl)
theorem iLevelsOfTree_q3 (x1 : (List ByteArray)) (x2 : (List ByteArray)) (x3 : Int) (x4 : Int) : iLevelsOfTree_D3 (x1, (x2, (x3, (x4, ())))) = cnd (ilt x4 x3) (cnd (inb x4 (len x2)) (bnd (iDigest_d ((rd (bs []) x2 x4), ())) (fun r4 => (cnd (fits ((len x1) + (len (r4.1.1 :: ([] : List ByteArray)))) 1) (iLevelsOfTree_D3 ((app x1 (r4.1.1 :: ([] : List ByteArray))), (x2, (x3, ((iadd .i64 x4 (1 : Int)), ()))))) none))) none) (iLevelsOfTree_D7 (x1, ())) := (FnD.eqC V iLevelsOfTree_c iLevelsOfTree_F 3 (x1, (x2, (x3, (x4, ()))))).trans (by kernel_rfl)
theorem iLevelsOfTree_q7 (x1 : (List ByteArray)) : iLevelsOfTree_D7 (x1, ()) = cnd (ieq (len x1) (0 : Int)) (bnd (iDigest_d ((bs []), ())) (fun r1 => (cnd (fits ((len x1) + (len (r1.1.1 :: ([] : List ByteArray)))) 1) (iLevelsOfTree_D7 ((app x1 (r1.1.1 :: ([] : List ByteArray))), ())) none))) (cnd (ine (iand .i64 (len x1) (isub .i64 (len x1) (1 : Int))) (0 : Int)) (bnd (iDigest_d ((bs []), ())) (fun r1 => (cnd (fits ((len x1) + (len (r1.1.1 :: ([] : List ByteArray)))) 1) (iLevelsOfTree_D7 ((app x1 (r1.1.1 :: ([] : List ByteArray))), ())) none))) (iLevelsOfTree_D10 (x1, ((x1 :: ([] : List (List ByteArray))), ())))) := (FnD.eqC V iLevelsOfTree_c iLevelsOfTree_F 7 (x1, ())).trans (by kernel_rfl)
theorem iLevelsOfTree_q13 (x1 : (List ByteArray)) (x2 : (List (List ByteArray))) (x3 : (List ByteArray)) (x4 : Int) : iLevelsOfTree_D13 (x1, (x2, (x3, (x4, ())))) = cnd (ilt x4 (len x1)) (cnd (inb x4 (len x1)) (cnd (inb (iadd .i64 x4 (1 : Int)) (len x1)) (bnd (iDigestPair_d ((rd (bs []) x1 x4), ((rd (bs []) x1 (iadd .i64 x4 (1 : Int))), ()))) (fun r4 => (cnd (fits ((len x3) + (len (r4.1.1 :: ([] : List ByteArray)))) 1) (iLevelsOfTree_D13 (x1, (x2, ((app x3 (r4.1.1 :: ([] : List ByteArray))), ((iadd .i64 x4 (2 : Int)), ()))))) none))) none) none) (cnd (fits ((len x2) + (len (x3 :: ([] : List (List ByteArray))))) 1) (iLevelsOfTree_D10 (x3, ((app x2 (x3 :: ([] : List (List ByteArray)))), ()))) none) := (FnD.eqC V iLevelsOfTree_c iLevelsOfTree_F 13 (x1, (x2, (x3, (x4, ()))))).trans (by kernel_rfl)
theorem iLevelsOfTree_q10 (x1 : (List ByteArray)) (x2 : (List (List ByteArray))) : iLevelsOfTree_D10 (x1, (x2, ())) = cnd (igt (len x1) (1 : Int)) (iLevelsOfTree_D13 (x1, (x2, (([] : List ByteArray), ((0 : Int), ()))))) (some ((x2, ()), ())) := (FnD.eqC V iLevelsOfTree_c iLevelsOfTree_F 10 (x1, (x2, ()))).trans (by kernel_rfl)
theorem iLevelsOfTree_k : CallsOk Tryd.prog gls gvs 96 iLevelsOfTree_g := FnD.ok (F := iLevelsOfTree_F) (cs := iLevelsOfTree_c) V_ok (kC iDigest_k (kC iDigestPair_k kN)) Tryd.func96 (by decide) (by kernel_rfl)
-- impl.RootOf
noncomputable def iRootOf_F : FnD := { f := 67, fn := Tryd.f67, ps := [pa (.sl .str)], rs := [rt .str] }
noncomputable def iRootOf_c : List (Nat × Sig) := [(96, iLevelsOfTree_g)]
noncomputable def iRootOf_d : (List ByteArray) × Unit → Option ((ByteArray × Unit) × Unit) := iRootOf_F.d V iRootOf_c
noncomputable abbrev iRootOf_g : Sig := iRootOf_F.t.sig iRootOf_d
theorem iRootOf_b (x1 : (List ByteArray)) : iRootOf_d (x1, ()) = cnd (igt (len x1) (32 : Int)) (some (((bs []), ()), ())) (bnd (iLevelsOfTree_d (x1, ())) (fun r1 => (cnd (inb (isub .i64 (len r1.1.1) (1 : Int)) (len r1.1.1)) (cnd (inb (0 : Int) (len (rd ([] : List ByteArray) r1.1.1 (isub .i64 (len r1.1.1) (1 : Int))))) (some (((rd (bs []) (rd ([] : List ByteArray) r1.1.1 (isub .i64 (len r1.1.1) (1 : Int))) (0 : Int)), ()), ())) none) none))) := (FnD.eq V iRootOf_c iRootOf_F (x1, ())).trans (by kernel_rfl)
theorem iRootOf_k : CallsOk Tryd.prog gls gvs 67 iRootOf_g := FnD.ok (F := iRootOf_F) (cs := iRootOf_c) V_ok (kC iLevelsOfTree_k kN) Tryd.func67 (by decide) (by kernel_rfl)
-- impl.HeadRoot
noncomputable def iHeadRoot_F : FnD := { f := 31, fn := Tryd.f31, ps := [pa THead], rs := [rt .str] }
noncomputable def iHeadRoot_c : List (Nat × Sig) := [(66, iHeadOk_g), (68, iVarText_g), (67, iRootOf_g)]
noncomputable def iHeadRoot_d : tHead × Unit → Option ((ByteArray × Unit) × Unit) := iHeadRoot_F.d V iHeadRoot_c
noncomputable abbrev iHeadRoot_g : Sig := iHeadRoot_F.t.sig iHeadRoot_d
theorem iHeadRoot_b (x1 : tHead) : iHeadRoot_d (x1, ()) = bnd (iHeadOk_d (x1, ())) (fun r1 => (cnd (bnot r1.1.1) (some (((bs []), ()), ())) (bnd (iVarText_d (x1.1, ())) (fun r2 => (bnd (iRootOf_d ((r2.1.1 :: (x1.2.1 :: (x1.2.2.1 :: (x1.2.2.2.1 :: ([] : List ByteArray))))), ())) (fun r3 => (some ((r3.1.1, ()), ())))))))) := (FnD.eq V iHeadRoot_c iHeadRoot_F (x1, ())).trans (by kernel_rfl)
theorem iHeadRoot_k : CallsOk Tryd.prog gls gvs 31 iHeadRoot_g := FnD.ok (F := iHeadRoot_F) (cs := iHeadRoot_c) V_ok (kC iHeadOk_k (kC iVarText_k (kC iRootOf_k kN))) Tryd.func31 (by decide) (by kernel_rfl)
-- impl.Hex
noncomputable def iHex_F : FnD := { f := 30, fn := Tryd.f30, ps := [pa .str], rs := [rt .str, rt .bool], cuts := [(6, [.val 0 .str .sh, .val 4 .str .sh, .val 5 (.sl (.int .u8)) (.own 0 .sh), .val 6 (.int .i64) .sh])] }
noncomputable def iHex_c : List (Nat × Sig) := []
noncomputable def iHex_d : ByteArray × Unit → Option ((ByteArray × Bool × Unit) × Unit) := iHex_F.d V iHex_c
noncomputable abbrev iHex_g : Sig := iHex_F.t.sig iHex_d
noncomputable def iHex_D6 : ByteArray × ByteArray × (List Int) × Int × Unit → Option ((ByteArray × Bool × Unit) × Unit) := iHex_F.D V iHex_c 6
theorem iHex_b (x1 : ByteArray) : iHex_d (x1, ()) = cnd (igt (ssz x1) (20000 : Int)) (some (zL21Cur, ())) (cnd (both (inb2 (0 : Int) (0 : Int) (imul .i64 (2 : Int) (ssz x1))) (fits (imul .i64 (2 : Int) (ssz x1)) 1)) (iHex_D6 (x1, ((bs [48, 49, 50, 51, 52, 53, 54, 55, 56, 57, 97, 98, 99, 100, 101, 102]), ((rep (0 : Int) (0 : Int)), ((0 : Int), ()))))) none) := (FnD.eq V iHex_c iHex_F (x1, ())).trans (by kernel_rfl)
theorem iHex_q6 (x1 : ByteArray) (x2 : ByteArray) (x3 : (List Int)) (x4 : Int) : iHex_D6 (x1, (x2, (x3, (x4, ())))) = cnd (ilt x4 (ssz x1)) (cnd (inb x4 (ssz x1)) (cnd (nn (4 : Int)) (cnd (inb (ishr .u8 (sat x1 x4) (4 : Int)) (ssz x2)) (cnd (inb x4 (ssz x1)) (cnd (inb (iand .u8 (sat x1 x4) (15 : Int)) (ssz x2)) (cnd (fits ((len x3) + (len ((sat x2 (ishr .u8 (sat x1 x4) (4 : Int))) :: ((sat x2 (iand .u8 (sat x1 x4) (15 : Int))) :: ([] : List Int))))) 1) (iHex_D6 (x1, (x2, ((app x3 ((sat x2 (ishr .u8 (sat x1 x4) (4 : Int))) :: ((sat x2 (iand .u8 (sat x1 x4) (15 : Int))) :: ([] : List Int)))), ((iadd .i64 x4 (1 : Int)), ()))))) none) none) none) none) none) none) (some (((sof x3), (true, ())), ())) := (FnD.eqC V iHex_c iHex_F 6 (x1, (x2, (x3, (x4, ()))))).trans (by kernel_rfl)
theorem iHex_k : CallsOk Tryd.prog gls gvs 30 iHex_g := FnD.ok (F := iHex_F) (cs := iHex_c) V_ok kN Tryd.func30 (by decide) (by kernel_rfl)
-- impl.Decimal
noncomputable def iDecimal_F : FnD := { f := 32, fn := Tryd.f32, ps := [pa (.int .i64)], rs := [rt .str] }
noncomputable def iDecimal_c : List (Nat × Sig) := [(69, g_strconv_Itoa_g)]
noncomputable def iDecimal_d : Int × Unit → Option ((ByteArray × Unit) × Unit) := iDecimal_F.d V iDecimal_c
noncomputable abbrev iDecimal_g : Sig := iDecimal_F.t.sig iDecimal_d
theorem iDecimal_b (x1 : Int) : iDecimal_d (x1, ()) = bnd (g_strconv_Itoa_d (x1, ())) (fun r1 => (some ((r1.1.1, ()), ()))) := (FnD.eq V iDecimal_c iDecimal_F (x1, ())).trans (by kernel_rfl)
theorem iDecimal_k : CallsOk Tryd.prog gls gvs 32 iDecimal_g := FnD.ok (F := iDecimal_F) (cs := iDecimal_c) V_ok (kC g_strconv_Itoa_k kN) Tryd.func32 (by decide) (by kernel_rfl)
-- impl.ShowClient
noncomputable def iShowClient_F : FnD := { f := 9, fn := Tryd.f9, ps := [pa TClient], rs := [rt .str], joins := [5], cuts := [(5, [.val 3 .str .sh, .val 5 .str .sh, .box 1 TClient .sh, .ptr 1 1 0])] }
noncomputable def iShowClient_c : List (Nat × Sig) := [(31, iHeadRoot_g), (30, iHex_g), (32, iDecimal_g)]
noncomputable def iShowClient_d : tClient × Unit → Option ((ByteArray × Unit) × Unit) := iShowClient_F.d V iShowClient_c
noncomputable abbrev iShowClient_g : Sig := iShowClient_F.t.sig iShowClient_d
noncomputable def iShowClient_D5 : ByteArray × ByteArray × tClient × Unit → Option ((ByteArray × Unit) × Unit) := iShowClient_F.D V iShowClient_c 5
theorem iShowClient_b (x1 : tClient) : iShowClient_d (x1, ()) = bnd (iHeadRoot_d (x1.1, ())) (fun r1 => (bnd (iHex_d (r1.1.1, ())) (fun r2 => (cnd x1.2.2.2.1 (iShowClient_D5 (r2.1.1, ((bs [110, 101, 120, 116]), (x1, ())))) (iShowClient_D5 (r2.1.1, ((bs [45]), (x1, ())))))))) := (FnD.eq V iShowClient_c iShowClient_F (x1, ())).trans (by kernel_rfl)
theorem iShowClient_q5 (x1 : ByteArray) (x2 : ByteArray) (x3 : tClient) : iShowClient_D5 (x1, (x2, (x3, ()))) = bnd (iDecimal_d ((imax x3.1.1 (0 : Int)), ())) (fun r3 => (cnd (fits ((ssz (bs [102, 105, 110, 97, 108, 32])) + (ssz r3.1.1)) 1) (cnd (fits ((ssz (scat (bs [102, 105, 110, 97, 108, 32]) r3.1.1)) + (ssz (bs [32]))) 1) (cnd (inb2 (0 : Int) (imin (8 : Int) (ssz x1)) (ssz x1)) (cnd (fits ((ssz (scat (scat (bs [102, 105, 110, 97, 108, 32]) r3.1.1) (bs [32]))) + (ssz (ssub x1 (0 : Int) (imin (8 : Int) (ssz x1))))) 1) (cnd (fits ((ssz (scat (scat (scat (bs [102, 105, 110, 97, 108, 32]) r3.1.1) (bs [32])) (ssub x1 (0 : Int) (imin (8 : Int) (ssz x1))))) + (ssz (bs [32]))) 1) (cnd (fits ((ssz (scat (scat (scat (scat (bs [102, 105, 110, 97, 108, 32]) r3.1.1) (bs [32])) (ssub x1 (0 : Int) (imin (8 : Int) (ssz x1)))) (bs [32]))) + (ssz x2)) 1) (cnd (fits ((ssz (scat (scat (scat (scat (scat (bs [102, 105, 110, 97, 108, 32]) r3.1.1) (bs [32])) (ssub x1 (0 : Int) (imin (8 : Int) (ssz x1)))) (bs [32])) x2)) + (ssz (bs [10]))) 1) (some (((scat (scat (scat (scat (scat (scat (bs [102, 105, 110, 97, 108, 32]) r3.1.1) (bs [32])) (ssub x1 (0 : Int) (imin (8 : Int) (ssz x1)))) (bs [32])) x2) (bs [10])), ()), ())) none) none) none) none) none) none) none)) := (FnD.eqC V iShowClient_c iShowClient_F 5 (x1, (x2, (x3, ())))).trans (by kernel_rfl)
theorem iShowClient_k : CallsOk Tryd.prog gls gvs 9 iShowClient_g := FnD.ok (F := iShowClient_F) (cs := iShowClient_c) V_ok (kC iHeadRoot_k (kC iHex_k (kC iDecimal_k kN))) Tryd.func9 (by decide) (by kernel_rfl)
-- laws.eqHead
noncomputable def wEqHead_F : FnD := { f := 33, fn := Tryd.f33, ps := [pa THead, pa THead], rs := [rt .bool] }
noncomputable def wEqHead_c : List (Nat × Sig) := []
noncomputable def wEqHead_d : tHead × tHead × Unit → Option ((Bool × Unit) × Unit) := wEqHead_F.d V wEqHead_c
noncomputable abbrev wEqHead_g : Sig := wEqHead_F.t.sig wEqHead_d
theorem wEqHead_b (x1 : tHead) (x2 : tHead) : wEqHead_d (x1, (x2, ())) = cnd (ine x1.1 x2.1) (some ((false, ()), ())) (cnd (sne x1.2.1 x2.2.1) (some ((false, ()), ())) (cnd (sne x1.2.2.1 x2.2.2.1) (some ((false, ()), ())) (cnd (sne x1.2.2.2.1 x2.2.2.2.1) (some ((false, ()), ())) (some ((true, ()), ()))))) := (FnD.eq V wEqHead_c wEqHead_F (x1, (x2, ()))).trans (by kernel_rfl)
theorem wEqHead_k : CallsOk Tryd.prog gls gvs 33 wEqHead_g := FnD.ok (F := wEqHead_F) (cs := wEqHead_c) V_ok kN Tryd.func33 (by decide) (by kernel_rfl)
-- laws.eqPoint
noncomputable def wEqPoint_F : FnD := { f := 71, fn := Tryd.f71, ps := [pa TPoint, pa TPoint], rs := [rt .bool] }
noncomputable def wEqPoint_c : List (Nat × Sig) := []
noncomputable def wEqPoint_d : tPoint × tPoint × Unit → Option ((Bool × Unit) × Unit) := wEqPoint_F.d V wEqPoint_c
noncomputable abbrev wEqPoint_g : Sig := wEqPoint_F.t.sig wEqPoint_d
theorem wEqPoint_b (x1 : tPoint) (x2 : tPoint) : wEqPoint_d (x1, (x2, ())) = cnd (ine x1.1 x2.1) (some ((false, ()), ())) (cnd (ine x1.2.1 x2.2.1) (some ((false, ()), ())) (cnd (bneB x1.2.2.1 x2.2.2.1) (some ((false, ()), ())) (some ((true, ()), ())))) := (FnD.eq V wEqPoint_c wEqPoint_F (x1, (x2, ()))).trans (by kernel_rfl)
theorem wEqPoint_k : CallsOk Tryd.prog gls gvs 71 wEqPoint_g := FnD.ok (F := wEqPoint_F) (cs := wEqPoint_c) V_ok kN Tryd.func71 (by decide) (by kernel_rfl)
-- laws.eqPointS
noncomputable def wEqPointS_F : FnD := { f := 70, fn := Tryd.f70, ps := [pa (.sl TPoint), pa (.sl TPoint)], rs := [rt .bool], cuts := [(4, [.val 0 (.sl TPoint) .sh, .val 1 (.sl TPoint) .sh, .val 5 (.int .i64) .sh])] }
noncomputable def wEqPointS_c : List (Nat × Sig) := [(71, wEqPoint_g)]
noncomputable def wEqPointS_d : (List tPoint) × (List tPoint) × Unit → Option ((Bool × Unit) × Unit) := wEqPointS_F.d V wEqPointS_c
noncomputable abbrev wEqPointS_g : Sig := wEqPointS_F.t.sig wEqPointS_d
noncomputable def wEqPointS_D4 : (List tPoint) × (List tPoint) × Int × Unit → Option ((Bool × Unit) × Unit) := wEqPointS_F.D V wEqPointS_c 4
theorem wEqPointS_b (x1 : (List tPoint)) (x2 : (List tPoint)) : wEqPointS_d (x1, (x2, ())) = cnd (ine (len x1) (len x2)) (some ((false, ()), ())) (wEqPointS_D4 (x1, (x2, ((0 : Int), ())))) := (FnD.eq V wEqPointS_c wEqPointS_F (x1, (x2, ()))).trans (by kernel_rfl)
theorem wEqPointS_q4 (x1 : (List tPoint)) (x2 : (List tPoint)) (x3 : Int) : wEqPointS_D4 (x1, (x2, (x3, ()))) = cnd (ilt x3 (len x1)) (cnd (inb x3 (len x1)) (cnd (inb x3 (len x2)) (bnd (wEqPoint_d ((rd zPoint x1 x3), ((rd zPoint x2 x3), ()))) (fun r3 => (cnd (bnot r3.1.1) (some ((false, ()), ())) (wEqPointS_D4 (x1, (x2, ((iadd .i64 x3 (1 : Int)), ()))))))) none) none) (some ((true, ()), ())) := (FnD.eqC V wEqPointS_c wEqPointS_F 4 (x1, (x2, (x3, ())))).trans (by kernel_rfl)
theorem wEqPointS_k : CallsOk Tryd.prog gls gvs 70 wEqPointS_g := FnD.ok (F := wEqPointS_F) (cs := wEqPointS_c) V_ok (kC wEqPoint_k kN) Tryd.func70 (by decide) (by kernel_rfl)
-- laws.eqCommittee
noncomputable def wEqCommittee_F : FnD := { f := 34, fn := Tryd.f34, ps := [pa TCommittee, pa TCommittee], rs := [rt .bool] }
noncomputable def wEqCommittee_c : List (Nat × Sig) := [(70, wEqPointS_g)]
noncomputable def wEqCommittee_d : tCommittee × tCommittee × Unit → Option ((Bool × Unit) × Unit) := wEqCommittee_F.d V wEqCommittee_c
noncomputable abbrev wEqCommittee_g : Sig := wEqCommittee_F.t.sig wEqCommittee_d
theorem wEqCommittee_b (x1 : tCommittee) (x2 : tCommittee) : wEqCommittee_d (x1, (x2, ())) = bnd (wEqPointS_d (x1.1, (x2.1, ()))) (fun r2 => (cnd (bnot r2.1.1) (some ((false, ()), ())) (some ((true, ()), ())))) := (FnD.eq V wEqCommittee_c wEqCommittee_F (x1, (x2, ()))).trans (by kernel_rfl)
theorem wEqCommittee_k : CallsOk Tryd.prog gls gvs 34 wEqCommittee_g := FnD.ok (F := wEqCommittee_F) (cs := wEqCommittee_c) V_ok (kC wEqPointS_k kN) Tryd.func34 (by decide) (by kernel_rfl)
-- laws.eqKeys
noncomputable def wEqKeys_F : FnD := { f := 35, fn := Tryd.f35, ps := [pa TKeys, pa TKeys], rs := [rt .bool] }
noncomputable def wEqKeys_c : List (Nat × Sig) := [(71, wEqPoint_g), (70, wEqPointS_g)]
noncomputable def wEqKeys_d : tKeys × tKeys × Unit → Option ((Bool × Unit) × Unit) := wEqKeys_F.d V wEqKeys_c
noncomputable abbrev wEqKeys_g : Sig := wEqKeys_F.t.sig wEqKeys_d
theorem wEqKeys_b (x1 : tKeys) (x2 : tKeys) : wEqKeys_d (x1, (x2, ())) = bnd (wEqPoint_d (x1.1, (x2.1, ()))) (fun r2 => (cnd (bnot r2.1.1) (some ((false, ()), ())) (bnd (wEqPoint_d (x1.2.1, (x2.2.1, ()))) (fun r3 => (cnd (bnot r3.1.1) (some ((false, ()), ())) (bnd (wEqPoint_d (x1.2.2.1, (x2.2.2.1, ()))) (fun r4 => (cnd (bnot r4.1.1) (some ((false, ()), ())) (bnd (wEqPoint_d (x1.2.2.2.1, (x2.2.2.2.1, ()))) (fun r5 => (cnd (bnot r5.1.1) (some ((false, ()), ())) (bnd (wEqPointS_d (x1.2.2.2.2.1, (x2.2.2.2.2.1, ()))) (fun r6 => (cnd (bnot r6.1.1) (some ((false, ()), ())) (some ((true, ()), ())))))))))))))))) := (FnD.eq V wEqKeys_c wEqKeys_F (x1, (x2, ()))).trans (by kernel_rfl)
theorem wEqKeys_k : CallsOk Tryd.prog gls gvs 35 wEqKeys_g := FnD.ok (F := wEqKeys_F) (cs := wEqKeys_c) V_ok (kC wEqPoint_k (kC wEqPointS_k kN)) Tryd.func35 (by decide) (by kernel_rfl)
-- laws.eqClient
noncomputable def wEqClient_F : FnD := { f := 10, fn := Tryd.f10, ps := [pa TClient, pa TClient], rs := [rt .bool] }
noncomputable def wEqClient_c : List (Nat × Sig) := [(33, wEqHead_g), (34, wEqCommittee_g), (35, wEqKeys_g)]
noncomputable def wEqClient_d : tClient × tClient × Unit → Option ((Bool × Unit) × Unit) := wEqClient_F.d V wEqClient_c
noncomputable abbrev wEqClient_g : Sig := wEqClient_F.t.sig wEqClient_d
theorem wEqClient_b (x1 : tClient) (x2 : tClient) : wEqClient_d (x1, (x2, ())) = bnd (wEqHead_d (x1.1, (x2.1, ()))) (fun r2 => (cnd (bnot r2.1.1) (some ((false, ()), ())) (bnd (wEqCommittee_d (x1.2.1, (x2.2.1, ()))) (fun r3 => (cnd (bnot r3.1.1) (some ((false, ()), ())) (bnd (wEqCommittee_d (x1.2.2.1, (x2.2.2.1, ()))) (fun r4 => (cnd (bnot r4.1.1) (some ((false, ()), ())) (cnd (bneB x1.2.2.2.1 x2.2.2.2.1) (some ((false, ()), ())) (bnd (wEqKeys_d (x1.2.2.2.2.1, (x2.2.2.2.2.1, ()))) (fun r5 => (cnd (bnot r5.1.1) (some ((false, ()), ())) (some ((true, ()), ())))))))))))))) := (FnD.eq V wEqClient_c wEqClient_F (x1, (x2, ()))).trans (by kernel_rfl)
theorem wEqClient_k : CallsOk Tryd.prog gls gvs 10 wEqClient_g := FnD.ok (F := wEqClient_F) (cs := wEqClient_c) V_ok (kC wEqHead_k (kC wEqCommittee_k (kC wEqKeys_k kN))) Tryd.func10 (by decide) (by kernel_rfl)
-- laws.FnExactShowClient
noncomputable def wFnExactShowClient_F : FnD := { f := 3, fn := Tryd.f3, ps := [pa TClient], rs := [rt .bool] }
noncomputable def wFnExactShowClient_c : List (Nat × Sig) := [(6, wSzClient_g), (8, wToClient_g), (7, sShowClient_g), (9, iShowClient_g), (10, wEqClient_g)]
noncomputable def wFnExactShowClient_d : tClient × Unit → Option ((Bool × Unit) × Unit) := wFnExactShowClient_F.d V wFnExactShowClient_c
noncomputable abbrev wFnExactShowClient_g : Sig := wFnExactShowClient_F.t.sig wFnExactShowClient_d
theorem wFnExactShowClient_b (x1 : tClient) : wFnExactShowClient_d (x1, ()) = bnd (wSzClient_d (x1, ((1048576 : Int), ()))) (fun r1 => (cnd (ilt r1.1.1 (0 : Int)) (some ((true, ()), ())) (bnd (wToClient_d (x1, ())) (fun r2 => (bnd (sShowClient_d (r2.1.1, ())) (fun r3 => (bnd (wToClient_d (x1, ())) (fun r4 => (bnd (iShowClient_d (r4.1.1, ())) (fun r5 => (cnd (sne r5.1.1 r3.1.1) (some ((false, ()), ())) (bnd (wToClient_d (x1, ())) (fun r6 => (bnd (wEqClient_d (r4.1.1, (r6.1.1, ()))) (fun r7 => (cnd (bnot r7.1.1) (some ((false, ()), ())) (some ((true, ()), ())))))))))))))))))) := (FnD.eq V wFnExactShowClient_c wFnExactShowClient_F (x1, ())).trans (by kernel_rfl)
theorem wFnExactShowClient_k : CallsOk Tryd.prog gls gvs 3 wFnExactShowClient_g := FnD.ok (F := wFnExactShowClient_F) (cs := wFnExactShowClient_c) V_ok (kC wSzClient_k (kC wToClient_k (kC sShowClient_k (kC iShowClient_k (kC wEqClient_k kN))))) Tryd.func3 (by decide) (by kernel_rfl)
end Go.Proofs.YtngnpgnlbkgofaaDoor
