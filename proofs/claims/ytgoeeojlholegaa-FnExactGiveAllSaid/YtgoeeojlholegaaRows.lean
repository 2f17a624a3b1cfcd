/-
  No cell of these rows narrows 'for every input' (looked for: loops, veiled, ifaces, maps, wideKeys, modest, calm, conditions, laid).
  DERIVED. THE GIVEN ROWS OF THIS SEAT. 5 by the template 'for every input the law returns true; each argument reads behind the call as it read before'; 0 by the template 'total and deterministic' (their statements: YtgoeeojlholegaaTotals.lean).
  GIVEN WITH THE SEED: the statements are not yours to turn. If you find one false, say at which input.
  Laid BY PROGRAM, IN A SANDBOX (cutbox-rows.mjs): the forced cells as the released guide's own fill.sh prints them over the translation 2ef03670b9c6efaa… (all of the seat's roots in one cut). By AI agents, Wed Nov 11 2026. No macro, syntax, notation, axiom, sorry.
-/
import Derived.Test.YtgoeeojlholegaaChecked
import GoSem.Claim
import GoSem.ClaimJoined
import GoSem.ClaimMapViews
import Derived.JoinedTies
import Derived.KernelRfl
namespace Go.Proofs.Ytgoeeojlholegaa
/- THE CELL 'sum', in the pinned program and in every row, IS THE sha256 OF THE DUMP (.gsa) THAT YtgoeeojlholegaaProg.lean LOADS. Nothing in Lean hashes anything: it is a label: what it is worth is what the hold of that sum in a sandbox is worth. -/
noncomputable def Try.pinned : Pinned := { name := "ytgoeeojlholegaa", sum := "2ef03670b9c6efaa1127e36284acc69bd94ad618a91f1ecee01f2fd92c6294d6", checked := Try.checked }
namespace Rows
def none {H : Type} : Left H := { results := [], args := [] }

/-- 'laws.FnExactValidShare': WHATEVER THE INPUT: true; the input reads as it did. -/
def fnExactValidShareSpec : ChangeSpec := { name := "fnExactValidShare", fn := fun _ => fun
  | [d] => { results := [.lit (.bool true)], args := [d] }
  | _ => none }
def fnExactValidShareRow : OpenClaim := { program := "ytgoeeojlholegaa", sum := "2ef03670b9c6efaa1127e36284acc69bd94ad618a91f1ecee01f2fd92c6294d6", func := "loop.example/connectionpool/laws.FnExactValidShare", spec := "fnExactValidShare", unfollowed := true, recurses := true, apart := false }
def FnExactValidShareSaid : Prop := fnExactValidShareRow.holds Try.pinned (OpenSpec.ofChange fnExactValidShareSpec)

/-- ITS FALSE NEIGHBOUR: 'it returns false'. Refute it at one input. -/
def fnExactValidShareWrong : ChangeSpec := { name := "fnExactValidShare", fn := fun _ => fun
  | [d] => { results := [.lit (.bool false)], args := [d] }
  | _ => none }
def FnExactValidShareWrongFalsely : Prop := fnExactValidShareRow.holds Try.pinned (OpenSpec.ofChange fnExactValidShareWrong)

/-- 'laws.FnExactNextOwner': WHATEVER THE INPUT: true; the input reads as it did. -/
def fnExactNextOwnerSpec : ChangeSpec := { name := "fnExactNextOwner", fn := fun _ => fun
  | [d1, d2] => { results := [.lit (.bool true)], args := [d1, d2] }
  | _ => none }
def fnExactNextOwnerRow : OpenClaim := { program := "ytgoeeojlholegaa", sum := "2ef03670b9c6efaa1127e36284acc69bd94ad618a91f1ecee01f2fd92c6294d6", func := "loop.example/connectionpool/laws.FnExactNextOwner", spec := "fnExactNextOwner", unfollowed := true, recurses := true, apart := false }
def FnExactNextOwnerSaid : Prop := fnExactNextOwnerRow.holds Try.pinned (OpenSpec.ofChange fnExactNextOwnerSpec)

/-- ITS FALSE NEIGHBOUR: 'it returns false'. Refute it at one input. -/
def fnExactNextOwnerWrong : ChangeSpec := { name := "fnExactNextOwner", fn := fun _ => fun
  | [d1, d2] => { results := [.lit (.bool false)], args := [d1, d2] }
  | _ => none }
def FnExactNextOwnerWrongFalsely : Prop := fnExactNextOwnerRow.holds Try.pinned (OpenSpec.ofChange fnExactNextOwnerWrong)

/-- 'laws.FnExactGiveShare': WHATEVER THE INPUT: true; the input reads as it did. -/
def fnExactGiveShareSpec : ChangeSpec := { name := "fnExactGiveShare", fn := fun _ => fun
  | [d1, d2] => { results := [.lit (.bool true)], args := [d1, d2] }
  | _ => none }
def fnExactGiveShareRow : OpenClaim := { program := "ytgoeeojlholegaa", sum := "2ef03670b9c6efaa1127e36284acc69bd94ad618a91f1ecee01f2fd92c6294d6", func := "loop.example/connectionpool/laws.FnExactGiveShare", spec := "fnExactGiveShare", unfollowed := true, recurses := true, apart := false }
def FnExactGiveShareSaid : Prop := fnExactGiveShareRow.holds Try.pinned (OpenSpec.ofChange fnExactGiveShareSpec)

/-- ITS FALSE NEIGHBOUR: 'it returns false'. Refute it at one input. -/
def fnExactGiveShareWrong : ChangeSpec := { name := "fnExactGiveShare", fn := fun _ => fun
  | [d1, d2] => { results := [.lit (.bool false)], args := [d1, d2] }
  | _ => none }
def FnExactGiveShareWrongFalsely : Prop := fnExactGiveShareRow.holds Try.pinned (OpenSpec.ofChange fnExactGiveShareWrong)

/-- 'laws.FnExactTakeShare': WHATEVER THE INPUT: true; the input reads as it did. -/
def fnExactTakeShareSpec : ChangeSpec := { name := "fnExactTakeShare", fn := fun _ => fun
  | [d1, d2] => { results := [.lit (.bool true)], args := [d1, d2] }
  | _ => none }
def fnExactTakeShareRow : OpenClaim := { program := "ytgoeeojlholegaa", sum := "2ef03670b9c6efaa1127e36284acc69bd94ad618a91f1ecee01f2fd92c6294d6", func := "loop.example/connectionpool/laws.FnExactTakeShare", spec := "fnExactTakeShare", unfollowed := true, recurses := true, apart := false }
def FnExactTakeShareSaid : Prop := fnExactTakeShareRow.holds Try.pinned (OpenSpec.ofChange fnExactTakeShareSpec)

/-- ITS FALSE NEIGHBOUR: 'it returns false'. Refute it at one input. -/
def fnExactTakeShareWrong : ChangeSpec := { name := "fnExactTakeShare", fn := fun _ => fun
  | [d1, d2] => { results := [.lit (.bool false)], args := [d1, d2] }
  | _ => none }
def FnExactTakeShareWrongFalsely : Prop := fnExactTakeShareRow.holds Try.pinned (OpenSpec.ofChange fnExactTakeShareWrong)

/-- 'laws.FnExactGiveAll': WHATEVER THE INPUT: true; the input reads as it did. -/
def fnExactGiveAllSpec : ChangeSpec := { name := "fnExactGiveAll", fn := fun _ => fun
  | [d1, d2] => { results := [.lit (.bool true)], args := [d1, d2] }
  | _ => none }
def fnExactGiveAllRow : OpenClaim := { program := "ytgoeeojlholegaa", sum := "2ef03670b9c6efaa1127e36284acc69bd94ad618a91f1ecee01f2fd92c6294d6", func := "loop.example/connectionpool/laws.FnExactGiveAll", spec := "fnExactGiveAll", unfollowed := true, recurses := true, apart := false }
def FnExactGiveAllSaid : Prop := fnExactGiveAllRow.holds Try.pinned (OpenSpec.ofChange fnExactGiveAllSpec)

/-- ITS FALSE NEIGHBOUR: 'it returns false'. Refute it at one input. -/
def fnExactGiveAllWrong : ChangeSpec := { name := "fnExactGiveAll", fn := fun _ => fun
  | [d1, d2] => { results := [.lit (.bool false)], args := [d1, d2] }
  | _ => none }
def FnExactGiveAllWrongFalsely : Prop := fnExactGiveAllRow.holds Try.pinned (OpenSpec.ofChange fnExactGiveAllWrong)

/- THE SECOND FORM. 'bulk': how many values and letters a reading holds, each counted each time it is reached (what is shared counts as often as it is met; a slice's spare places count too). A statement '..UptoSaid' is the law's where the arguments, and the package variables that the reading takes, are together of bulk at most 1048576: NARROWER than '..Said'. Prove '..Said' where nothing that the law and all that it calls make is longer than what came in: it says more and counts as full. Else prove '..UptoSaid'. A law counts once. -/
mutual
def uptoBulk {H : Type} : DataW H → Nat
  | .lit (.string bytes) => bytes.length + 1
  | .lit _ => 1
  | .nil => 1
  | .ptr d => uptoBulk d + 1
  | .slice elems spare => uptoBulkAll elems + uptoBulkAll spare + 1
  | .agg parts => uptoBulkAll parts + 1
  | .iface _ d => uptoBulk d + 1
  | .map entries => uptoBulkEntries entries + 1
  | .held _ => 1
def uptoBulkAll {H : Type} : List (DataW H) → Nat
  | [] => 0
  | d :: r => uptoBulk d + uptoBulkAll r
def uptoBulkEntries {H : Type} : List (Lit × DataW H) → Nat
  | [] => 0
  | x :: r => uptoBulkEntry x + uptoBulkEntries r
def uptoBulkEntry {H : Type} : Lit × DataW H → Nat
  | (.string bytes, d) => bytes.length + uptoBulk d + 1
  | (_, d) => uptoBulk d + 1
 end
def uptoSmall : (H : Type) → List (DataW H) → Bool := fun _ ds => decide (uptoBulkAll ds ≤ 1048576)
def OpenSpec.upto (s : _root_.Go.ChangeSpec) : _root_.Go.OpenSpec := { _root_.Go.OpenSpec.ofChange s with cond := some uptoSmall }

/-- 'laws.FnExactValidShare', WHERE WHAT IT READS IS OF BULK AT MOST 1048576: true; the input reads as it did. -/
def fnExactValidShareUptoRow : OpenClaim := { program := "ytgoeeojlholegaa", sum := "2ef03670b9c6efaa1127e36284acc69bd94ad618a91f1ecee01f2fd92c6294d6", func := "loop.example/connectionpool/laws.FnExactValidShare", spec := "fnExactValidShare", unfollowed := true, recurses := true, apart := false, narrowed := true }
def FnExactValidShareUptoSaid : Prop := fnExactValidShareUptoRow.holds Try.pinned (OpenSpec.upto fnExactValidShareSpec)

/-- 'laws.FnExactNextOwner', WHERE WHAT IT READS IS OF BULK AT MOST 1048576: true; the input reads as it did. -/
def fnExactNextOwnerUptoRow : OpenClaim := { program := "ytgoeeojlholegaa", sum := "2ef03670b9c6efaa1127e36284acc69bd94ad618a91f1ecee01f2fd92c6294d6", func := "loop.example/connectionpool/laws.FnExactNextOwner", spec := "fnExactNextOwner", unfollowed := true, recurses := true, apart := false, narrowed := true }
def FnExactNextOwnerUptoSaid : Prop := fnExactNextOwnerUptoRow.holds Try.pinned (OpenSpec.upto fnExactNextOwnerSpec)

/-- 'laws.FnExactGiveShare', WHERE WHAT IT READS IS OF BULK AT MOST 1048576: true; the input reads as it did. -/
def fnExactGiveShareUptoRow : OpenClaim := { program := "ytgoeeojlholegaa", sum := "2ef03670b9c6efaa1127e36284acc69bd94ad618a91f1ecee01f2fd92c6294d6", func := "loop.example/connectionpool/laws.FnExactGiveShare", spec := "fnExactGiveShare", unfollowed := true, recurses := true, apart := false, narrowed := true }
def FnExactGiveShareUptoSaid : Prop := fnExactGiveShareUptoRow.holds Try.pinned (OpenSpec.upto fnExactGiveShareSpec)

/-- 'laws.FnExactTakeShare', WHERE WHAT IT READS IS OF BULK AT MOST 1048576: true; the input reads as it did. -/
def fnExactTakeShareUptoRow : OpenClaim := { program := "ytgoeeojlholegaa", sum := "2ef03670b9c6efaa1127e36284acc69bd94ad618a91f1ecee01f2fd92c6294d6", func := "loop.example/connectionpool/laws.FnExactTakeShare", spec := "fnExactTakeShare", unfollowed := true, recurses := true, apart := false, narrowed := true }
def FnExactTakeShareUptoSaid : Prop := fnExactTakeShareUptoRow.holds Try.pinned (OpenSpec.upto fnExactTakeShareSpec)

/-- 'laws.FnExactGiveAll', WHERE WHAT IT READS IS OF BULK AT MOST 1048576: true; the input reads as it did. -/
def fnExactGiveAllUptoRow : OpenClaim := { program := "ytgoeeojlholegaa", sum := "2ef03670b9c6efaa1127e36284acc69bd94ad618a91f1ecee01f2fd92c6294d6", func := "loop.example/connectionpool/laws.FnExactGiveAll", spec := "fnExactGiveAll", unfollowed := true, recurses := true, apart := false, narrowed := true }
def FnExactGiveAllUptoSaid : Prop := fnExactGiveAllUptoRow.holds Try.pinned (OpenSpec.upto fnExactGiveAllSpec)

end Rows
end Go.Proofs.Ytgoeeojlholegaa
