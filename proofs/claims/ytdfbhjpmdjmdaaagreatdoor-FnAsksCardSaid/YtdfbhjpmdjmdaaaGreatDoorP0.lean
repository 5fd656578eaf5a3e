/- Types, and what stands round the program. Of no condition. -/
import Derived.Test.YtdfbhjpmdjmdaaaGreatDoorMe
import Derived.Test.YtdfbhjpmdjmdaaaGreatDoorRows
set_option linter.unusedVariables false
set_option maxRecDepth 100000
namespace Go.Proofs.YtdfbhjpmdjmdaaaGreatDoor
open Go.TV
abbrev TTwo : Ty := .prod (.int .i64) (.prod (.int .i64) .unit)
abbrev tTwo : Type := Int × (Int × Unit)
noncomputable def zTwo : tTwo := (0, (0, ()))
abbrev TL21Cur : Ty := .prod .str (.prod .bool .unit)
abbrev QzM : Type := ByteArray × (Bool × Unit)
noncomputable def czQ : QzM := ((bs []), (false, ()))
abbrev az4 : Ty := .prod (.int .i64) (.prod (.int .i64) (.prod .bool .unit))
abbrev azm : Type := Int × (Int × (Bool × Unit))
noncomputable def czS : azm := (0, (0, (false, ())))
abbrev czh : Ty := .prod .str (.prod .str .unit)
abbrev azh : Type := ByteArray × (ByteArray × Unit)
noncomputable def bzr : azh := ((bs []), ((bs []), ()))
abbrev TScanner : Ty := .prod .str (.prod (.int .i64) (.prod .bool .unit))
abbrev NzC : Type := ByteArray × (Int × (Bool × Unit))
noncomputable def zScanner : NzC := ((bs []), (0, (false, ())))
abbrev bzU : Ty := .prod (.sl (.int .u8)) TTwo
abbrev azi : Type := (List Int) × tTwo
noncomputable def zL01Cur : azi := (([] : List Int), zTwo)
abbrev TEvent : Ty := .prod (.int .i64) (.prod (.int .i64) (.prod (.int .i64) (.prod .str .unit)))
abbrev Nzt : Type := Int × (Int × (Int × (ByteArray × Unit)))
noncomputable def zEvent : Nzt := (0, (0, (0, ((bs []), ()))))
abbrev TToxic : Ty := .prod (.int .i64) (.prod (.int .i64) (.prod (.int .i64) TTwo))
abbrev tToxic : Type := Int × (Int × (Int × tTwo))
noncomputable def zToxic : tToxic := (0, (0, (0, zTwo)))
abbrev azr : Ty := .prod (.sl az4) .unit
abbrev azl : Type := (List azm) × Unit
noncomputable def azG : azl := (([] : List azm), ())
abbrev jzH : Ty := .prod (.sl .str) (.prod (.int .i64) (.prod (.sl (.int .i64)) .unit))
abbrev bze : Type := (List ByteArray) × (Int × ((List Int) × Unit))
noncomputable def zVerifier : bze := (([] : List ByteArray), (0, (([] : List Int), ())))
abbrev TRow : Ty := .prod (.sl (.int .i64)) (.prod (.sl (.int .i64)) (.prod (.sl (.int .i64)) .unit))
abbrev tRow : Type := (List Int) × ((List Int) × ((List Int) × Unit))
noncomputable def zRow : tRow := (([] : List Int), (([] : List Int), (([] : List Int), ())))
abbrev pz7 : Ty := .prod (.int .i64) (.prod .str czh)
abbrev czD : Type := Int × (ByteArray × azh)
noncomputable def DzV : czD := (0, ((bs []), bzr))
abbrev Izi : Ty := .prod .bool (.prod .bool (.prod .str (.prod .item (.prod (.int .i64) .unit))))
abbrev pz9 : Type := Bool × (Bool × (ByteArray × (ItemT × (Int × Unit))))
noncomputable def Dzk : pz9 := (false, (false, ((bs []), ((ItemT.mk false (bs []) ([] : List ItemT)), (0, ())))))
abbrev TQap : Ty := .prod (.sl (.sl (.int .i64))) (.prod (.sl (.sl (.int .i64))) (.prod (.sl (.sl (.int .i64))) .unit))
abbrev tQap : Type := (List (List Int)) × ((List (List Int)) × ((List (List Int)) × Unit))
noncomputable def zQap : tQap := (([] : List (List Int)), (([] : List (List Int)), (([] : List (List Int)), ())))
abbrev bzc : Ty := .prod .str (.prod (.int .i64) (.prod (.int .i64) (.prod (.sl czh) .unit)))
abbrev azb : Type := ByteArray × (Int × (Int × ((List azh) × Unit)))
noncomputable def azL : azb := ((bs []), (0, (0, (([] : List azh), ()))))
abbrev TSystem : Ty := .prod (.int .i64) (.prod (.int .i64) (.prod (.sl TRow) .unit))
abbrev Qzm : Type := Int × (Int × ((List tRow) × Unit))
noncomputable def zSystem : Qzm := (0, (0, (([] : List tRow), ())))
abbrev PzH : Ty := .prod (.int .i64) (.prod (.sl bzc) .unit)
abbrev Ezf : Type := Int × ((List azb) × Unit)
noncomputable def Pzl : Ezf := (0, (([] : List azb), ()))
abbrev TProof : Ty := .prod az4 (.prod az4 (.prod az4 .unit))
abbrev Pzz : Type := azm × (azm × (azm × Unit))
noncomputable def zProof : Pzz := (czS, (czS, (czS, ())))
abbrev TAsk : Ty := .prod .str (.prod .str (.prod .str (.prod (.sl .str) (.prod (.sl .str) (.prod (.sl .str) .unit)))))
abbrev tAsk : Type := ByteArray × (ByteArray × (ByteArray × ((List ByteArray) × ((List ByteArray) × ((List ByteArray) × Unit)))))
noncomputable def zAsk : tAsk := ((bs []), ((bs []), ((bs []), (([] : List ByteArray), (([] : List ByteArray), (([] : List ByteArray), ()))))))
abbrev TScript : Ty := .prod PzH (.prod (.sl TEvent) .unit)
abbrev Qzv : Type := Ezf × ((List Nzt) × Unit)
noncomputable def zScript : Qzv := (Pzl, (([] : List Nzt), ()))
abbrev TKeys : Ty := .prod az4 (.prod az4 (.prod az4 (.prod az4 azr)))
abbrev Qzp : Type := azm × (azm × (azm × (azm × azl)))
noncomputable def zKeys : Qzp := (czS, (czS, (czS, (czS, azG))))
abbrev TMaker : Ty := .prod TKeys (.prod (.sl az4) (.prod (.sl az4) (.prod (.sl az4) azr)))
abbrev Pzs : Type := Qzp × ((List azm) × ((List azm) × ((List azm) × azl)))
noncomputable def zMaker : Pzs := (zKeys, (([] : List azm), (([] : List azm), (([] : List azm), azG))))
abbrev LzD : Ty := .prod pz7 (.prod azr (.prod azr (.prod .bool (.prod TKeys .unit))))
abbrev Fzl : Type := czD × (azl × (azl × (Bool × (Qzp × Unit))))
noncomputable def LzT : Fzl := (DzV, (azG, (azG, (false, (zKeys, ())))))
abbrev TUpdate : Ty := .prod pz7 (.prod azr (.prod (.sl .str) (.prod pz7 (.prod (.sl .str) (.prod (.int .i64) (.prod az4 (.prod TProof (.prod (.int .i64) .unit))))))))
abbrev Qzr : Type := czD × (azl × ((List ByteArray) × (czD × ((List ByteArray) × (Int × (azm × (Pzz × (Int × Unit))))))))
noncomputable def zUpdate : Qzr := (DzV, (azG, (([] : List ByteArray), (DzV, (([] : List ByteArray), (0, (czS, (zProof, (0, ())))))))))
abbrev Pz2 : Ty := .prod LzD (.prod LzD (.prod .str (.prod (.int .i64) (.prod (.sl .str) (.prod (.int .i64) .unit)))))
abbrev KzY : Type := Fzl × (Fzl × (ByteArray × (Int × ((List ByteArray) × (Int × Unit)))))
noncomputable def QzB : KzY := (LzT, (LzT, ((bs []), (0, (([] : List ByteArray), (0, ()))))))
abbrev TWorld : Ty := .prod PzH (.prod TMaker (.prod Pz2 (.prod (.sl (.int .i64)) (.prod (.sl .str) .unit))))
abbrev tWorld : Type := Ezf × (Pzs × (KzY × ((List Int) × ((List ByteArray) × Unit))))
noncomputable def zWorld : tWorld := (Pzl, (zMaker, (QzB, (([] : List Int), (([] : List ByteArray), ())))))
abbrev pa (t : Ty) : Par := { t := t }
abbrev rt (t : Ty) : Rt := { t := t }
noncomputable def tts : List (Nat × Ty) := [(3, (.int .i64)), (4, .bool), (5, (.int .u8)), (9, .str), (22, (.sl (.int .u8))), (24, (.sl .str)), (26, (.prod .str (.prod .str (.prod .str (.prod (.sl .str) (.prod (.sl .str) (.prod (.sl .str) .unit))))))), (31, (.sl (.prod .str (.prod (.int .i64) (.prod (.int .i64) (.prod (.sl (.prod .str (.prod .str .unit))) .unit)))))), (34, (.sl (.prod .str (.prod .str .unit)))), (37, (.sl (.prod (.int .i64) (.prod (.int .i64) (.prod .bool .unit))))), (39, (.prod (.sl (.prod (.int .i64) (.prod (.int .i64) (.prod .bool .unit)))) .unit)), (41, (.prod (.int .i64) (.prod .str (.prod .str (.prod .str .unit))))), (47, (.prod .str (.prod (.int .i64) (.prod (.int .i64) (.prod (.sl (.prod .str (.prod .str .unit))) .unit))))), (68, (.sl (.sl .str))), (79, (.prod .str (.prod .str .unit))), (83, (.prod (.sl (.int .u8)) (.prod (.int .i64) (.prod (.int .i64) .unit)))), (85, (.int .u64)), (86, (.arr 25 (.int .u64))), (90, (.int .u64)), (92, (.sl (.int .i64))), (95, (.prod (.sl .str) (.prod (.int .i64) (.prod (.sl (.int .i64)) .unit)))), (96, (.sl .item)), (98, .item), (100, (.prod .bool (.prod .bool (.prod .str (.prod .item (.prod (.int .i64) .unit)))))), (128, (.prod (.int .i64) (.prod (.int .i64) (.prod .bool .unit)))), (129, (.arr 25 (.int .u64))), (131, (.arr 24 (.int .u64))), (134, (.arr 25 (.int .u64))), (158, (.arr 5 (.int .u64))), (185, (.arr 25 (.int .i64))), (190, (.int .u32))]
theorem GzI : ttB Tryz.prog tts = true := by kernel_rfl
theorem mix_ok : Tryz.prog.follows .mixedOrders = true := by kernel_rfl
def az5 : List Int := [0, 1, 62, 28, 27, 36, 44, 6, 55, 20, 3, 10, 43, 25, 39, 41, 45, 15, 21, 8, 18, 2, 61, 56, 14]
def azU : List Int := [1, 32898, 9223372036854808714, 9223372039002292224, 32907, 2147483649, 9223372039002292353, 9223372036854808585, 138, 136, 2147516425, 2147483658, 2147516555, 9223372036854775947, 9223372036854808713, 9223372036854808579, 9223372036854808578, 9223372036854775936, 32778, 9223372039002259466, 9223372039002292353, 9223372036854808704, 2147483649, 9223372039002292232]
noncomputable def gls (i : Nat) : Option VV := bif Nat.beq i 0 then some (.cp (.arr 25 (.int .i64)) az5 0) else bif Nat.beq i 1 then some (.cp (.arr 24 (.int .u64)) azU 0) else none
def gvs (i : Nat) : Value := .pointer (some ⟨i, 0, none⟩)
noncomputable def V : Sur := ⟨ttOf tts, gls⟩
theorem V_ok : SurOk Tryz.prog V gvs := ⟨fun _ _ => rfl, fun t T h => (DzU tts GzI t T h).1, fun t T h => (DzU tts GzI t T h).2, mix_ok⟩
theorem kN : ∀ e ∈ ([] : List (Nat × Sig)), CallsOk Tryz.prog gls gvs e.1 e.2 := fun e h => by cases h
theorem kC {f : Nat} {s : Sig} {L : List (Nat × Sig)} (h : CallsOk Tryz.prog gls gvs f s) (k : ∀ e ∈ L, CallsOk Tryz.prog gls gvs e.1 e.2) : ∀ e ∈ (f, s) :: L, CallsOk Tryz.prog gls gvs e.1 e.2 := List.forall_mem_cons.2 ⟨h, k⟩
end Go.Proofs.YtdfbhjpmdjmdaaaGreatDoor
