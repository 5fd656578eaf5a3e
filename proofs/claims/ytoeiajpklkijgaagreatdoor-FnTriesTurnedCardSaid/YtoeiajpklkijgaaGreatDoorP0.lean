/- Types, and what stands round the program. Of no condition. -/
import Derived.Test.YtoeiajpklkijgaaGreatDoorMe
import Derived.Test.YtoeiajpklkijgaaGreatDoorRows
set_option linter.unusedVariables false
set_option maxRecDepth 100000
namespace Go.Proofs.YtoeiajpklkijgaaGreatDoor
open Go.TV
abbrev TTwo : Ty := .prod (.int .i64) (.prod (.int .i64) .unit)
abbrev tTwo : Type := Int × (Int × Unit)
noncomputable def zTwo : tTwo := (0, (0, ()))
abbrev TL21Cur : Ty := .prod .str (.prod .bool .unit)
abbrev tL21Cur : Type := ByteArray × (Bool × Unit)
noncomputable def zL21Cur : tL21Cur := ((bs []), (false, ()))
abbrev TPoint : Ty := .prod (.int .i64) (.prod (.int .i64) (.prod .bool .unit))
abbrev tPoint : Type := Int × (Int × (Bool × Unit))
noncomputable def zPoint : tPoint := (0, (0, (false, ())))
abbrev TPair : Ty := .prod .str (.prod .str .unit)
abbrev tPair : Type := ByteArray × (ByteArray × Unit)
noncomputable def zPair : tPair := ((bs []), ((bs []), ()))
abbrev TScanner : Ty := .prod .str (.prod (.int .i64) (.prod .bool .unit))
abbrev tScanner : Type := ByteArray × (Int × (Bool × Unit))
noncomputable def zScanner : tScanner := ((bs []), (0, (false, ())))
abbrev TL01Cur : Ty := .prod (.sl (.int .u8)) TTwo
abbrev tL01Cur : Type := (List Int) × tTwo
noncomputable def zL01Cur : tL01Cur := (([] : List Int), zTwo)
abbrev TEvent : Ty := .prod (.int .i64) (.prod (.int .i64) (.prod (.int .i64) (.prod .str .unit)))
abbrev tEvent : Type := Int × (Int × (Int × (ByteArray × Unit)))
noncomputable def zEvent : tEvent := (0, (0, (0, ((bs []), ()))))
abbrev TToxic : Ty := .prod (.int .i64) (.prod (.int .i64) (.prod (.int .i64) TTwo))
abbrev tToxic : Type := Int × (Int × (Int × tTwo))
noncomputable def zToxic : tToxic := (0, (0, (0, zTwo)))
abbrev TCommittee : Ty := .prod (.sl TPoint) .unit
abbrev tCommittee : Type := (List tPoint) × Unit
noncomputable def zCommittee : tCommittee := (([] : List tPoint), ())
abbrev TVerifier : Ty := .prod (.sl .str) (.prod (.int .i64) (.prod (.sl (.int .i64)) .unit))
abbrev tVerifier : Type := (List ByteArray) × (Int × ((List Int) × Unit))
noncomputable def zVerifier : tVerifier := (([] : List ByteArray), (0, (([] : List Int), ())))
abbrev TRow : Ty := .prod (.sl (.int .i64)) (.prod (.sl (.int .i64)) (.prod (.sl (.int .i64)) .unit))
abbrev tRow : Type := (List Int) × ((List Int) × ((List Int) × Unit))
noncomputable def zRow : tRow := (([] : List Int), (([] : List Int), (([] : List Int), ())))
abbrev THead : Ty := .prod (.int .i64) (.prod .str TPair)
abbrev tHead : Type := Int × (ByteArray × tPair)
noncomputable def zHead : tHead := (0, ((bs []), zPair))
abbrev TStop : Ty := .prod .bool (.prod .bool (.prod .str (.prod .item (.prod (.int .i64) .unit))))
abbrev tStop : Type := Bool × (Bool × (ByteArray × (ItemT × (Int × Unit))))
noncomputable def zStop : tStop := (false, (false, ((bs []), ((ItemT.mk false (bs []) ([] : List ItemT)), (0, ())))))
abbrev TQap : Ty := .prod (.sl (.sl (.int .i64))) (.prod (.sl (.sl (.int .i64))) (.prod (.sl (.sl (.int .i64))) .unit))
abbrev tQap : Type := (List (List Int)) × ((List (List Int)) × ((List (List Int)) × Unit))
noncomputable def zQap : tQap := (([] : List (List Int)), (([] : List (List Int)), (([] : List (List Int)), ())))
abbrev TAccount : Ty := .prod .str (.prod (.int .i64) (.prod (.int .i64) (.prod (.sl TPair) .unit)))
abbrev tAccount : Type := ByteArray × (Int × (Int × ((List tPair) × Unit)))
noncomputable def zAccount : tAccount := ((bs []), (0, (0, (([] : List tPair), ()))))
abbrev TSystem : Ty := .prod (.int .i64) (.prod (.int .i64) (.prod (.sl TRow) .unit))
abbrev tSystem : Type := Int × (Int × ((List tRow) × Unit))
noncomputable def zSystem : tSystem := (0, (0, (([] : List tRow), ())))
abbrev TChain : Ty := .prod (.int .i64) (.prod (.sl TAccount) .unit)
abbrev tChain : Type := Int × ((List tAccount) × Unit)
noncomputable def zChain : tChain := (0, (([] : List tAccount), ()))
abbrev TProof : Ty := .prod TPoint (.prod TPoint (.prod TPoint .unit))
abbrev tProof : Type := tPoint × (tPoint × (tPoint × Unit))
noncomputable def zProof : tProof := (zPoint, (zPoint, (zPoint, ())))
abbrev TAsk : Ty := .prod .str (.prod .str (.prod .str (.prod (.sl .str) (.prod (.sl .str) (.prod (.sl .str) .unit)))))
abbrev tAsk : Type := ByteArray × (ByteArray × (ByteArray × ((List ByteArray) × ((List ByteArray) × ((List ByteArray) × Unit)))))
noncomputable def zAsk : tAsk := ((bs []), ((bs []), ((bs []), (([] : List ByteArray), (([] : List ByteArray), (([] : List ByteArray), ()))))))
abbrev TScript : Ty := .prod TChain (.prod (.sl TEvent) .unit)
abbrev tScript : Type := tChain × ((List tEvent) × Unit)
noncomputable def zScript : tScript := (zChain, (([] : List tEvent), ()))
abbrev TKeys : Ty := .prod TPoint (.prod TPoint (.prod TPoint (.prod TPoint TCommittee)))
abbrev tKeys : Type := tPoint × (tPoint × (tPoint × (tPoint × tCommittee)))
noncomputable def zKeys : tKeys := (zPoint, (zPoint, (zPoint, (zPoint, zCommittee))))
abbrev TMaker : Ty := .prod TKeys (.prod (.sl TPoint) (.prod (.sl TPoint) (.prod (.sl TPoint) TCommittee)))
abbrev tMaker : Type := tKeys × ((List tPoint) × ((List tPoint) × ((List tPoint) × tCommittee)))
noncomputable def zMaker : tMaker := (zKeys, (([] : List tPoint), (([] : List tPoint), (([] : List tPoint), zCommittee))))
abbrev TClient : Ty := .prod THead (.prod TCommittee (.prod TCommittee (.prod .bool (.prod TKeys .unit))))
abbrev tClient : Type := tHead × (tCommittee × (tCommittee × (Bool × (tKeys × Unit))))
noncomputable def zClient : tClient := (zHead, (zCommittee, (zCommittee, (false, (zKeys, ())))))
abbrev TUpdate : Ty := .prod THead (.prod TCommittee (.prod (.sl .str) (.prod THead (.prod (.sl .str) (.prod (.int .i64) (.prod TPoint (.prod TProof (.prod (.int .i64) .unit))))))))
abbrev tUpdate : Type := tHead × (tCommittee × ((List ByteArray) × (tHead × ((List ByteArray) × (Int × (tPoint × (tProof × (Int × Unit))))))))
noncomputable def zUpdate : tUpdate := (zHead, (zCommittee, (([] : List ByteArray), (zHead, (([] : List ByteArray), (0, (zPoint, (zProof, (0, ())))))))))
abbrev TBridge : Ty := .prod TClient (.prod TClient (.prod .str (.prod (.int .i64) (.prod (.sl .str) (.prod (.int .i64) .unit)))))
abbrev tBridge : Type := tClient × (tClient × (ByteArray × (Int × ((List ByteArray) × (Int × Unit)))))
noncomputable def zBridge : tBridge := (zClient, (zClient, ((bs []), (0, (([] : List ByteArray), (0, ()))))))
abbrev TWorld : Ty := .prod TChain (.prod TMaker (.prod TBridge (.prod (.sl (.int .i64)) (.prod (.sl .str) .unit))))
abbrev tWorld : Type := tChain × (tMaker × (tBridge × ((List Int) × ((List ByteArray) × Unit))))
noncomputable def zWorld : tWorld := (zChain, (zMaker, (zBridge, (([] : List Int), (([] : List ByteArray), ())))))
abbrev pa (t : Ty) : Par := { t := t }
abbrev rt (t : Ty) : Rt := { t := t }
noncomputable def tts : List (Nat × Ty) := [(2, (.int .i64)), (3, (.int .i64)), (4, .bool), (5, (.int .u8)), (9, .str), (22, (.sl (.int .u8))), (24, (.sl (.prod .str (.prod .str .unit)))), (28, (.prod .str (.prod .str .unit))), (29, (.sl .str)), (36, (.sl .item)), (38, .item), (43, (.sl (.int .i64))), (51, (.sl (.prod .str (.prod (.int .i64) (.prod (.int .i64) (.prod (.sl (.prod .str (.prod .str .unit))) .unit)))))), (53, (.prod (.int .i64) (.prod (.sl (.prod .str (.prod (.int .i64) (.prod (.int .i64) (.prod (.sl (.prod .str (.prod .str .unit))) .unit))))) .unit))), (56, (.prod .str (.prod .str (.prod .str (.prod (.sl .str) (.prod (.sl .str) (.prod (.sl .str) .unit))))))), (58, (.sl (.prod .str (.prod (.int .i64) (.prod (.int .i64) (.prod (.sl (.prod .str (.prod .str .unit))) .unit)))))), (60, (.prod (.int .i64) (.prod (.sl (.prod .str (.prod (.int .i64) (.prod (.int .i64) (.prod (.sl (.prod .str (.prod .str .unit))) .unit))))) .unit))), (76, (.prod (.sl .str) (.prod (.int .i64) (.prod (.sl (.int .i64)) .unit)))), (78, (.prod .bool (.prod .bool (.prod .str (.prod .item (.prod (.int .i64) .unit)))))), (100, (.sl (.prod (.int .i64) (.prod (.int .i64) (.prod .bool .unit))))), (102, (.prod (.sl (.prod (.int .i64) (.prod (.int .i64) (.prod .bool .unit)))) .unit)), (105, (.prod (.int .i64) (.prod .str (.prod .str (.prod .str .unit))))), (106, (.sl (.prod (.int .i64) (.prod .str (.prod .str (.prod .str .unit)))))), (116, (.prod (.sl (.int .u8)) (.prod (.int .i64) (.prod (.int .i64) .unit)))), (121, (.int .u64)), (128, (.int .u64)), (129, (.arr 25 (.int .u64))), (130, (.arr 25 (.int .u64))), (143, (.sl (.prod .str (.prod .str .unit)))), (145, (.prod .str (.prod (.int .i64) (.prod (.int .i64) (.prod (.sl (.prod .str (.prod .str .unit))) .unit))))), (151, (.prod .str (.prod (.int .i64) (.prod (.int .i64) (.prod (.sl (.prod .str (.prod .str .unit))) .unit))))), (179, (.arr 25 (.int .u64))), (181, (.arr 24 (.int .u64))), (192, (.prod (.int .i64) (.prod (.int .i64) (.prod .bool .unit)))), (197, (.sl (.sl .str))), (205, (.arr 5 (.int .u64))), (207, (.arr 25 (.int .i64))), (212, (.prod .str (.prod .str .unit))), (226, (.int .u32)), (237, (.arr 24 (.int .u8))), (243, (.arr 20 (.int .u64))), (244, (.arr 65 (.int .u8))), (248, (.arr 32 (.int .u8))), (249, (.arr 64 (.int .u8)))]
theorem tts_ok : ttB Tryz.prog tts = true := by kernel_rfl
theorem mix_ok : Tryz.prog.follows .mixedOrders = true := by kernel_rfl
def G_impl_turns : List Int := [0, 1, 62, 28, 27, 36, 44, 6, 55, 20, 3, 10, 43, 25, 39, 41, 45, 15, 21, 8, 18, 2, 61, 56, 14]
def G_impl_roundConstants : List Int := [1, 32898, 9223372036854808714, 9223372039002292224, 32907, 2147483649, 9223372039002292353, 9223372036854808585, 138, 136, 2147516425, 2147483658, 2147516555, 9223372036854775947, 9223372036854808713, 9223372036854808579, 9223372036854808578, 9223372036854775936, 32778, 9223372039002259466, 9223372039002292353, 9223372036854808704, 2147483649, 9223372039002292232]
noncomputable def gls (i : Nat) : Option VV := bif Nat.beq i 0 then some (.cp (.arr 25 (.int .i64)) G_impl_turns 0) else bif Nat.beq i 1 then some (.cp (.arr 24 (.int .u64)) G_impl_roundConstants 0) else none
def gvs (i : Nat) : Value := .pointer (some ⟨i, 0, none⟩)
noncomputable def V : Sur := ⟨ttOf tts, gls⟩
theorem V_ok : SurOk Tryz.prog V gvs := ⟨fun _ _ => rfl, fun t T h => (ttB_ok tts tts_ok t T h).1, fun t T h => (ttB_ok tts tts_ok t T h).2, mix_ok⟩
theorem kN : ∀ e ∈ ([] : List (Nat × Sig)), CallsOk Tryz.prog gls gvs e.1 e.2 := fun e h => by cases h
theorem kC {f : Nat} {s : Sig} {L : List (Nat × Sig)} (h : CallsOk Tryz.prog gls gvs f s) (k : ∀ e ∈ L, CallsOk Tryz.prog gls gvs e.1 e.2) : ∀ e ∈ (f, s) :: L, CallsOk Tryz.prog gls gvs e.1 e.2 := List.forall_mem_cons.2 ⟨h, k⟩
end Go.Proofs.YtoeiajpklkijgaaGreatDoor
