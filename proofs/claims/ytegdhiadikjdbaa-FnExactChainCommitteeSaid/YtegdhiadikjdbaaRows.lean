/-
  No cell of these rows narrows 'for every input' (looked for: loops, veiled, ifaces, maps, wideKeys, modest, calm, conditions, laid).
  DERIVED. THE GIVEN ROWS OF THIS SEAT. 7 by the template 'for every input the law returns true; each argument reads behind the call as it read before'; 0 by the template 'total and deterministic' (their statements: YtegdhiadikjdbaaTotals.lean).
  GIVEN WITH THE SEED: the statements are not yours to turn. If you find one false, say at which input.
  Laid BY PROGRAM, IN A SANDBOX (cutbox-rows.mjs): the forced cells as the released guide's own fill.sh prints them over the translation dfcdcce9013e454c… (all of the seat's roots in one cut). By AI agents, Wed Nov 11 2026. No macro, syntax, notation, axiom, sorry.
-/
import Derived.Test.YtegdhiadikjdbaaChecked
import GoSem.Claim
import GoSem.ClaimJoined
import GoSem.ClaimMapViews
import Derived.JoinedTies
import Derived.KernelRfl
namespace Go.Proofs.Ytegdhiadikjdbaa
/- THE CELL 'sum', in the pinned program and in every row, IS THE sha256 OF THE DUMP (.gsa) THAT YtegdhiadikjdbaaProg.lean LOADS. Nothing in Lean hashes anything: it is a label: what it is worth is what the hold of that sum in a sandbox is worth. -/
noncomputable def Try.pinned : Pinned := { name := "ytegdhiadikjdbaa", sum := "dfcdcce9013e454cd910fdde6c48d4c41d9ef5fe474d8cffe5782b97afbaf7e4", checked := Try.checked }
namespace Rows
def none {H : Type} : Left H := { results := [], args := [] }

/-- 'laws.FnExactEventOk': WHATEVER THE INPUT: true; the input reads as it did. -/
def fnExactEventOkSpec : ChangeSpec := { name := "fnExactEventOk", fn := fun _ => fun
  | [d] => { results := [.lit (.bool true)], args := [d] }
  | _ => none }
def fnExactEventOkRow : OpenClaim := { program := "ytegdhiadikjdbaa", sum := "dfcdcce9013e454cd910fdde6c48d4c41d9ef5fe474d8cffe5782b97afbaf7e4", func := "loop.example/g00321/laws.FnExactEventOk", spec := "fnExactEventOk", apart := false }
def FnExactEventOkSaid : Prop := fnExactEventOkRow.holds Try.pinned (OpenSpec.ofChange fnExactEventOkSpec)

/-- ITS FALSE NEIGHBOUR: 'it returns false'. Refute it at one input. -/
def fnExactEventOkWrong : ChangeSpec := { name := "fnExactEventOk", fn := fun _ => fun
  | [d] => { results := [.lit (.bool false)], args := [d] }
  | _ => none }
def FnExactEventOkWrongFalsely : Prop := fnExactEventOkRow.holds Try.pinned (OpenSpec.ofChange fnExactEventOkWrong)

/-- 'laws.FnExactChainOk': WHATEVER THE INPUT: true; the input reads as it did. -/
def fnExactChainOkSpec : ChangeSpec := { name := "fnExactChainOk", fn := fun _ => fun
  | [d] => { results := [.lit (.bool true)], args := [d] }
  | _ => none }
def fnExactChainOkRow : OpenClaim := { program := "ytegdhiadikjdbaa", sum := "dfcdcce9013e454cd910fdde6c48d4c41d9ef5fe474d8cffe5782b97afbaf7e4", func := "loop.example/g00321/laws.FnExactChainOk", spec := "fnExactChainOk", apart := false }
def FnExactChainOkSaid : Prop := fnExactChainOkRow.holds Try.pinned (OpenSpec.ofChange fnExactChainOkSpec)

/-- ITS FALSE NEIGHBOUR: 'it returns false'. Refute it at one input. -/
def fnExactChainOkWrong : ChangeSpec := { name := "fnExactChainOk", fn := fun _ => fun
  | [d] => { results := [.lit (.bool false)], args := [d] }
  | _ => none }
def FnExactChainOkWrongFalsely : Prop := fnExactChainOkRow.holds Try.pinned (OpenSpec.ofChange fnExactChainOkWrong)

/-- 'laws.FnExactChainAccounts': WHATEVER THE INPUT: true; the input reads as it did. -/
def fnExactChainAccountsSpec : ChangeSpec := { name := "fnExactChainAccounts", fn := fun _ => fun
  | [d1, d2] => { results := [.lit (.bool true)], args := [d1, d2] }
  | _ => none }
def fnExactChainAccountsRow : OpenClaim := { program := "ytegdhiadikjdbaa", sum := "dfcdcce9013e454cd910fdde6c48d4c41d9ef5fe474d8cffe5782b97afbaf7e4", func := "loop.example/g00321/laws.FnExactChainAccounts", spec := "fnExactChainAccounts", apart := false }
def FnExactChainAccountsSaid : Prop := fnExactChainAccountsRow.holds Try.pinned (OpenSpec.ofChange fnExactChainAccountsSpec)

/-- ITS FALSE NEIGHBOUR: 'it returns false'. Refute it at one input. -/
def fnExactChainAccountsWrong : ChangeSpec := { name := "fnExactChainAccounts", fn := fun _ => fun
  | [d1, d2] => { results := [.lit (.bool false)], args := [d1, d2] }
  | _ => none }
def FnExactChainAccountsWrongFalsely : Prop := fnExactChainAccountsRow.holds Try.pinned (OpenSpec.ofChange fnExactChainAccountsWrong)

/-- 'laws.FnExactSave': WHATEVER THE INPUT: true; the input reads as it did. -/
def fnExactSaveSpec : ChangeSpec := { name := "fnExactSave", fn := fun _ => fun
  | [d] => { results := [.lit (.bool true)], args := [d] }
  | _ => none }
def fnExactSaveRow : OpenClaim := { program := "ytegdhiadikjdbaa", sum := "dfcdcce9013e454cd910fdde6c48d4c41d9ef5fe474d8cffe5782b97afbaf7e4", func := "loop.example/g00321/laws.FnExactSave", spec := "fnExactSave", apart := false }
def FnExactSaveSaid : Prop := fnExactSaveRow.holds Try.pinned (OpenSpec.ofChange fnExactSaveSpec)

/-- ITS FALSE NEIGHBOUR: 'it returns false'. Refute it at one input. -/
def fnExactSaveWrong : ChangeSpec := { name := "fnExactSave", fn := fun _ => fun
  | [d] => { results := [.lit (.bool false)], args := [d] }
  | _ => none }
def FnExactSaveWrongFalsely : Prop := fnExactSaveRow.holds Try.pinned (OpenSpec.ofChange fnExactSaveWrong)

/-- 'laws.FnExactTick': WHATEVER THE INPUT: true; the input reads as it did. -/
def fnExactTickSpec : ChangeSpec := { name := "fnExactTick", fn := fun _ => fun
  | [d1, d2] => { results := [.lit (.bool true)], args := [d1, d2] }
  | _ => none }
def fnExactTickRow : OpenClaim := { program := "ytegdhiadikjdbaa", sum := "dfcdcce9013e454cd910fdde6c48d4c41d9ef5fe474d8cffe5782b97afbaf7e4", func := "loop.example/g00321/laws.FnExactTick", spec := "fnExactTick", apart := false }
def FnExactTickSaid : Prop := fnExactTickRow.holds Try.pinned (OpenSpec.ofChange fnExactTickSpec)

/-- ITS FALSE NEIGHBOUR: 'it returns false'. Refute it at one input. -/
def fnExactTickWrong : ChangeSpec := { name := "fnExactTick", fn := fun _ => fun
  | [d1, d2] => { results := [.lit (.bool false)], args := [d1, d2] }
  | _ => none }
def FnExactTickWrongFalsely : Prop := fnExactTickRow.holds Try.pinned (OpenSpec.ofChange fnExactTickWrong)

/-- 'laws.FnExactDeliver': WHATEVER THE INPUT: true; the input reads as it did. -/
def fnExactDeliverSpec : ChangeSpec := { name := "fnExactDeliver", fn := fun _ => fun
  | [d1, d2] => { results := [.lit (.bool true)], args := [d1, d2] }
  | _ => none }
def fnExactDeliverRow : OpenClaim := { program := "ytegdhiadikjdbaa", sum := "dfcdcce9013e454cd910fdde6c48d4c41d9ef5fe474d8cffe5782b97afbaf7e4", func := "loop.example/g00321/laws.FnExactDeliver", spec := "fnExactDeliver", apart := false }
def FnExactDeliverSaid : Prop := fnExactDeliverRow.holds Try.pinned (OpenSpec.ofChange fnExactDeliverSpec)

/-- ITS FALSE NEIGHBOUR: 'it returns false'. Refute it at one input. -/
def fnExactDeliverWrong : ChangeSpec := { name := "fnExactDeliver", fn := fun _ => fun
  | [d1, d2] => { results := [.lit (.bool false)], args := [d1, d2] }
  | _ => none }
def FnExactDeliverWrongFalsely : Prop := fnExactDeliverRow.holds Try.pinned (OpenSpec.ofChange fnExactDeliverWrong)

/-- 'laws.FnExactChainCommittee': WHATEVER THE INPUT: true; the input reads as it did. -/
def fnExactChainCommitteeSpec : ChangeSpec := { name := "fnExactChainCommittee", fn := fun _ => fun
  | [d1, d2] => { results := [.lit (.bool true)], args := [d1, d2] }
  | _ => none }
def fnExactChainCommitteeRow : OpenClaim := { program := "ytegdhiadikjdbaa", sum := "dfcdcce9013e454cd910fdde6c48d4c41d9ef5fe474d8cffe5782b97afbaf7e4", func := "loop.example/g00321/laws.FnExactChainCommittee", spec := "fnExactChainCommittee", apart := false }
def FnExactChainCommitteeSaid : Prop := fnExactChainCommitteeRow.holds Try.pinned (OpenSpec.ofChange fnExactChainCommitteeSpec)

/-- ITS FALSE NEIGHBOUR: 'it returns false'. Refute it at one input. -/
def fnExactChainCommitteeWrong : ChangeSpec := { name := "fnExactChainCommittee", fn := fun _ => fun
  | [d1, d2] => { results := [.lit (.bool false)], args := [d1, d2] }
  | _ => none }
def FnExactChainCommitteeWrongFalsely : Prop := fnExactChainCommitteeRow.holds Try.pinned (OpenSpec.ofChange fnExactChainCommitteeWrong)

/- THE SECOND FORM. 'bulk': how many values and letters a reading holds, each counted each time it is reached (what is shared counts as often as it is met; a slice's spare places count too). A statement '..UptoSaid' is the law's where the arguments, and the package variables that the reading takes, are together of bulk at most 1048576: NARROWER than '..Said'. Prove '..Said' where nothing that the law and all that it calls make is longer than what came in: it says more and counts as full. Else prove '..UptoSaid'. A law counts once. -/
mutual
def uptoBulk {H : Type} : DataW H → Nat
  | .lit (.string bytes) => bytes.length + 1
  | .lit _ => 1
  | .nil => 1
  | .ptr d => uptoBulk d + 1
  | .slice elems spare => uptoBulkAll elems + uptoBulkAll spare + 1
  | .agg parts => uptoBulkAll parts + 1
  | .iface _ d => uptoBulk d + 1
  | .map entries => uptoBulkEntries entries + 1
  | .held _ => 1
def uptoBulkAll {H : Type} : List (DataW H) → Nat
  | [] => 0
  | d :: r => uptoBulk d + uptoBulkAll r
def uptoBulkEntries {H : Type} : List (Lit × DataW H) → Nat
  | [] => 0
  | x :: r => uptoBulkEntry x + uptoBulkEntries r
def uptoBulkEntry {H : Type} : Lit × DataW H → Nat
  | (.string bytes, d) => bytes.length + uptoBulk d + 1
  | (_, d) => uptoBulk d + 1
 end
def uptoSmall : (H : Type) → List (DataW H) → Bool := fun _ ds => decide (uptoBulkAll ds ≤ 1048576)
def OpenSpec.upto (s : _root_.Go.ChangeSpec) : _root_.Go.OpenSpec := { _root_.Go.OpenSpec.ofChange s with cond := some uptoSmall }

/-- 'laws.FnExactEventOk', WHERE WHAT IT READS IS OF BULK AT MOST 1048576: true; the input reads as it did. -/
def fnExactEventOkUptoRow : OpenClaim := { program := "ytegdhiadikjdbaa", sum := "dfcdcce9013e454cd910fdde6c48d4c41d9ef5fe474d8cffe5782b97afbaf7e4", func := "loop.example/g00321/laws.FnExactEventOk", spec := "fnExactEventOk", apart := false, narrowed := true }
def FnExactEventOkUptoSaid : Prop := fnExactEventOkUptoRow.holds Try.pinned (OpenSpec.upto fnExactEventOkSpec)

/-- 'laws.FnExactChainOk', WHERE WHAT IT READS IS OF BULK AT MOST 1048576: true; the input reads as it did. -/
def fnExactChainOkUptoRow : OpenClaim := { program := "ytegdhiadikjdbaa", sum := "dfcdcce9013e454cd910fdde6c48d4c41d9ef5fe474d8cffe5782b97afbaf7e4", func := "loop.example/g00321/laws.FnExactChainOk", spec := "fnExactChainOk", apart := false, narrowed := true }
def FnExactChainOkUptoSaid : Prop := fnExactChainOkUptoRow.holds Try.pinned (OpenSpec.upto fnExactChainOkSpec)

/-- 'laws.FnExactChainAccounts', WHERE WHAT IT READS IS OF BULK AT MOST 1048576: true; the input reads as it did. -/
def fnExactChainAccountsUptoRow : OpenClaim := { program := "ytegdhiadikjdbaa", sum := "dfcdcce9013e454cd910fdde6c48d4c41d9ef5fe474d8cffe5782b97afbaf7e4", func := "loop.example/g00321/laws.FnExactChainAccounts", spec := "fnExactChainAccounts", apart := false, narrowed := true }
def FnExactChainAccountsUptoSaid : Prop := fnExactChainAccountsUptoRow.holds Try.pinned (OpenSpec.upto fnExactChainAccountsSpec)

/-- 'laws.FnExactSave', WHERE WHAT IT READS IS OF BULK AT MOST 1048576: true; the input reads as it did. -/
def fnExactSaveUptoRow : OpenClaim := { program := "ytegdhiadikjdbaa", sum := "dfcdcce9013e454cd910fdde6c48d4c41d9ef5fe474d8cffe5782b97afbaf7e4", func := "loop.example/g00321/laws.FnExactSave", spec := "fnExactSave", apart := false, narrowed := true }
def FnExactSaveUptoSaid : Prop := fnExactSaveUptoRow.holds Try.pinned (OpenSpec.upto fnExactSaveSpec)

/-- 'laws.FnExactTick', WHERE WHAT IT READS IS OF BULK AT MOST 1048576: true; the input reads as it did. -/
def fnExactTickUptoRow : OpenClaim := { program := "ytegdhiadikjdbaa", sum := "dfcdcce9013e454cd910fdde6c48d4c41d9ef5fe474d8cffe5782b97afbaf7e4", func := "loop.example/g00321/laws.FnExactTick", spec := "fnExactTick", apart := false, narrowed := true }
def FnExactTickUptoSaid : Prop := fnExactTickUptoRow.holds Try.pinned (OpenSpec.upto fnExactTickSpec)

/-- 'laws.FnExactDeliver', WHERE WHAT IT READS IS OF BULK AT MOST 1048576: true; the input reads as it did. -/
def fnExactDeliverUptoRow : OpenClaim := { program := "ytegdhiadikjdbaa", sum := "dfcdcce9013e454cd910fdde6c48d4c41d9ef5fe474d8cffe5782b97afbaf7e4", func := "loop.example/g00321/laws.FnExactDeliver", spec := "fnExactDeliver", apart := false, narrowed := true }
def FnExactDeliverUptoSaid : Prop := fnExactDeliverUptoRow.holds Try.pinned (OpenSpec.upto fnExactDeliverSpec)

/-- 'laws.FnExactChainCommittee', WHERE WHAT IT READS IS OF BULK AT MOST 1048576: true; the input reads as it did. -/
def fnExactChainCommitteeUptoRow : OpenClaim := { program := "ytegdhiadikjdbaa", sum := "dfcdcce9013e454cd910fdde6c48d4c41d9ef5fe474d8cffe5782b97afbaf7e4", func := "loop.example/g00321/laws.FnExactChainCommittee", spec := "fnExactChainCommittee", apart := false, narrowed := true }
def FnExactChainCommitteeUptoSaid : Prop := fnExactChainCommitteeUptoRow.holds Try.pinned (OpenSpec.upto fnExactChainCommitteeSpec)

end Rows
end Go.Proofs.Ytegdhiadikjdbaa
