/-
  No cell of these rows narrows 'for every input' (looked for: loops, veiled, ifaces, maps, wideKeys, modest, calm, conditions, laid).
  DERIVED. THE GIVEN ROWS OF THIS SEAT. 7 by the template 'for every input the law returns true; each argument reads behind the call as it read before'; 0 by the template 'total and deterministic' (their statements: YtbpadfeplmmeeaaTotals.lean).
  GIVEN WITH THE SEED: the statements are not yours to turn. If you find one false, say at which input.
  Laid BY PROGRAM, IN A SANDBOX (cutbox-rows.mjs): the forced cells as the released guide's own fill.sh prints them over the translation 7301831977d42fff… (all of the seat's roots in one cut). By AI agents, Wed Nov 11 2026. No macro, syntax, notation, axiom, sorry.
-/
import Derived.Test.YtbpadfeplmmeeaaChecked
import GoSem.Claim
import GoSem.ClaimJoined
import GoSem.ClaimMapViews
import Derived.JoinedTies
import Derived.KernelRfl
namespace Go.Proofs.Ytbpadfeplmmeeaa
/- THE CELL 'sum', in the pinned program and in every row, IS THE sha256 OF THE DUMP (.gsa) THAT YtbpadfeplmmeeaaProg.lean LOADS. Nothing in Lean hashes anything: it is a label: what it is worth is what the hold of that sum in a sandbox is worth. -/
noncomputable def Try.pinned : Pinned := { name := "ytbpadfeplmmeeaa", sum := "7301831977d42fff60331376ad03155b7c70144268224b5efd40810a663853bc", checked := Try.checked }
namespace Rows
def none {H : Type} : Left H := { results := [], args := [] }

/-- 'laws.FnAddLoad': WHATEVER THE INPUT: true; the input reads as it did. -/
def fnAddLoadSpec : ChangeSpec := { name := "fnAddLoad", fn := fun _ => fun
  | [d] => { results := [.lit (.bool true)], args := [d] }
  | _ => none }
def fnAddLoadRow : OpenClaim := { program := "ytbpadfeplmmeeaa", sum := "7301831977d42fff60331376ad03155b7c70144268224b5efd40810a663853bc", func := "loop.example/connectionpool/laws.FnAddLoad", spec := "fnAddLoad", unfollowed := true, recurses := true, apart := false }
def FnAddLoadSaid : Prop := fnAddLoadRow.holds Try.pinned (OpenSpec.ofChange fnAddLoadSpec)

/-- ITS FALSE NEIGHBOUR: 'it returns false'. Refute it at one input. -/
def fnAddLoadWrong : ChangeSpec := { name := "fnAddLoad", fn := fun _ => fun
  | [d] => { results := [.lit (.bool false)], args := [d] }
  | _ => none }
def FnAddLoadWrongFalsely : Prop := fnAddLoadRow.holds Try.pinned (OpenSpec.ofChange fnAddLoadWrong)

/-- 'laws.FnAddLoadBack': WHATEVER THE INPUT: true; the input reads as it did. -/
def fnAddLoadBackSpec : ChangeSpec := { name := "fnAddLoadBack", fn := fun _ => fun
  | [d] => { results := [.lit (.bool true)], args := [d] }
  | _ => none }
def fnAddLoadBackRow : OpenClaim := { program := "ytbpadfeplmmeeaa", sum := "7301831977d42fff60331376ad03155b7c70144268224b5efd40810a663853bc", func := "loop.example/connectionpool/laws.FnAddLoadBack", spec := "fnAddLoadBack", unfollowed := true, recurses := true, apart := false }
def FnAddLoadBackSaid : Prop := fnAddLoadBackRow.holds Try.pinned (OpenSpec.ofChange fnAddLoadBackSpec)

/-- ITS FALSE NEIGHBOUR: 'it returns false'. Refute it at one input. -/
def fnAddLoadBackWrong : ChangeSpec := { name := "fnAddLoadBack", fn := fun _ => fun
  | [d] => { results := [.lit (.bool false)], args := [d] }
  | _ => none }
def FnAddLoadBackWrongFalsely : Prop := fnAddLoadBackRow.holds Try.pinned (OpenSpec.ofChange fnAddLoadBackWrong)

/-- 'laws.FnExactAddLoad': WHATEVER THE INPUT: true; the input reads as it did. -/
def fnExactAddLoadSpec : ChangeSpec := { name := "fnExactAddLoad", fn := fun _ => fun
  | [d1, d2, d3] => { results := [.lit (.bool true)], args := [d1, d2, d3] }
  | _ => none }
def fnExactAddLoadRow : OpenClaim := { program := "ytbpadfeplmmeeaa", sum := "7301831977d42fff60331376ad03155b7c70144268224b5efd40810a663853bc", func := "loop.example/connectionpool/laws.FnExactAddLoad", spec := "fnExactAddLoad", unfollowed := true, recurses := true, apart := false }
def FnExactAddLoadSaid : Prop := fnExactAddLoadRow.holds Try.pinned (OpenSpec.ofChange fnExactAddLoadSpec)

/-- ITS FALSE NEIGHBOUR: 'it returns false'. Refute it at one input. -/
def fnExactAddLoadWrong : ChangeSpec := { name := "fnExactAddLoad", fn := fun _ => fun
  | [d1, d2, d3] => { results := [.lit (.bool false)], args := [d1, d2, d3] }
  | _ => none }
def FnExactAddLoadWrongFalsely : Prop := fnExactAddLoadRow.holds Try.pinned (OpenSpec.ofChange fnExactAddLoadWrong)

/-- 'laws.FnRouteReadsShort': WHATEVER THE INPUT: true; the input reads as it did. -/
def fnRouteReadsShortSpec : ChangeSpec := { name := "fnRouteReadsShort", fn := fun _ => fun
  | [d] => { results := [.lit (.bool true)], args := [d] }
  | _ => none }
def fnRouteReadsShortRow : OpenClaim := { program := "ytbpadfeplmmeeaa", sum := "7301831977d42fff60331376ad03155b7c70144268224b5efd40810a663853bc", func := "loop.example/connectionpool/laws.FnRouteReadsShort", spec := "fnRouteReadsShort", unfollowed := true, recurses := true, apart := false }
def FnRouteReadsShortSaid : Prop := fnRouteReadsShortRow.holds Try.pinned (OpenSpec.ofChange fnRouteReadsShortSpec)

/-- ITS FALSE NEIGHBOUR: 'it returns false'. Refute it at one input. -/
def fnRouteReadsShortWrong : ChangeSpec := { name := "fnRouteReadsShort", fn := fun _ => fun
  | [d] => { results := [.lit (.bool false)], args := [d] }
  | _ => none }
def FnRouteReadsShortWrongFalsely : Prop := fnRouteReadsShortRow.holds Try.pinned (OpenSpec.ofChange fnRouteReadsShortWrong)

/-- 'laws.FnRouteReadsSpread': WHATEVER THE INPUT: true; the input reads as it did. -/
def fnRouteReadsSpreadSpec : ChangeSpec := { name := "fnRouteReadsSpread", fn := fun _ => fun
  | [d] => { results := [.lit (.bool true)], args := [d] }
  | _ => none }
def fnRouteReadsSpreadRow : OpenClaim := { program := "ytbpadfeplmmeeaa", sum := "7301831977d42fff60331376ad03155b7c70144268224b5efd40810a663853bc", func := "loop.example/connectionpool/laws.FnRouteReadsSpread", spec := "fnRouteReadsSpread", unfollowed := true, recurses := true, apart := false }
def FnRouteReadsSpreadSaid : Prop := fnRouteReadsSpreadRow.holds Try.pinned (OpenSpec.ofChange fnRouteReadsSpreadSpec)

/-- ITS FALSE NEIGHBOUR: 'it returns false'. Refute it at one input. -/
def fnRouteReadsSpreadWrong : ChangeSpec := { name := "fnRouteReadsSpread", fn := fun _ => fun
  | [d] => { results := [.lit (.bool false)], args := [d] }
  | _ => none }
def FnRouteReadsSpreadWrongFalsely : Prop := fnRouteReadsSpreadRow.holds Try.pinned (OpenSpec.ofChange fnRouteReadsSpreadWrong)

/-- 'laws.FnRouteReads': WHATEVER THE INPUT: true; the input reads as it did. -/
def fnRouteReadsSpec : ChangeSpec := { name := "fnRouteReads", fn := fun _ => fun
  | [d] => { results := [.lit (.bool true)], args := [d] }
  | _ => none }
def fnRouteReadsRow : OpenClaim := { program := "ytbpadfeplmmeeaa", sum := "7301831977d42fff60331376ad03155b7c70144268224b5efd40810a663853bc", func := "loop.example/connectionpool/laws.FnRouteReads", spec := "fnRouteReads", unfollowed := true, recurses := true, apart := false }
def FnRouteReadsSaid : Prop := fnRouteReadsRow.holds Try.pinned (OpenSpec.ofChange fnRouteReadsSpec)

/-- ITS FALSE NEIGHBOUR: 'it returns false'. Refute it at one input. -/
def fnRouteReadsWrong : ChangeSpec := { name := "fnRouteReads", fn := fun _ => fun
  | [d] => { results := [.lit (.bool false)], args := [d] }
  | _ => none }
def FnRouteReadsWrongFalsely : Prop := fnRouteReadsRow.holds Try.pinned (OpenSpec.ofChange fnRouteReadsWrong)

/-- 'laws.FnExactRouteReads': WHATEVER THE INPUT: true; the input reads as it did. -/
def fnExactRouteReadsSpec : ChangeSpec := { name := "fnExactRouteReads", fn := fun _ => fun
  | [d1, d2] => { results := [.lit (.bool true)], args := [d1, d2] }
  | _ => none }
def fnExactRouteReadsRow : OpenClaim := { program := "ytbpadfeplmmeeaa", sum := "7301831977d42fff60331376ad03155b7c70144268224b5efd40810a663853bc", func := "loop.example/connectionpool/laws.FnExactRouteReads", spec := "fnExactRouteReads", unfollowed := true, recurses := true, apart := false }
def FnExactRouteReadsSaid : Prop := fnExactRouteReadsRow.holds Try.pinned (OpenSpec.ofChange fnExactRouteReadsSpec)

/-- ITS FALSE NEIGHBOUR: 'it returns false'. Refute it at one input. -/
def fnExactRouteReadsWrong : ChangeSpec := { name := "fnExactRouteReads", fn := fun _ => fun
  | [d1, d2] => { results := [.lit (.bool false)], args := [d1, d2] }
  | _ => none }
def FnExactRouteReadsWrongFalsely : Prop := fnExactRouteReadsRow.holds Try.pinned (OpenSpec.ofChange fnExactRouteReadsWrong)

/- THE SECOND FORM. 'bulk': how many values and letters a reading holds, each counted each time it is reached (what is shared counts as often as it is met; a slice's spare places count too). A statement '..UptoSaid' is the law's where the arguments, and the package variables that the reading takes, are together of bulk at most 1048576: NARROWER than '..Said'. Prove '..Said' where nothing that the law and all that it calls make is longer than what came in: it says more and counts as full. Else prove '..UptoSaid'. A law counts once. -/
mutual
def uptoBulk {H : Type} : DataW H → Nat
  | .lit (.string bytes) => bytes.length + 1
  | .lit _ => 1
  | .nil => 1
  | .ptr d => uptoBulk d + 1
  | .slice elems spare => uptoBulkAll elems + uptoBulkAll spare + 1
  | .agg parts => uptoBulkAll parts + 1
  | .iface _ d => uptoBulk d + 1
  | .map entries => uptoBulkEntries entries + 1
  | .held _ => 1
def uptoBulkAll {H : Type} : List (DataW H) → Nat
  | [] => 0
  | d :: r => uptoBulk d + uptoBulkAll r
def uptoBulkEntries {H : Type} : List (Lit × DataW H) → Nat
  | [] => 0
  | x :: r => uptoBulkEntry x + uptoBulkEntries r
def uptoBulkEntry {H : Type} : Lit × DataW H → Nat
  | (.string bytes, d) => bytes.length + uptoBulk d + 1
  | (_, d) => uptoBulk d + 1
 end
def uptoSmall : (H : Type) → List (DataW H) → Bool := fun _ ds => decide (uptoBulkAll ds ≤ 1048576)
def OpenSpec.upto (s : _root_.Go.ChangeSpec) : _root_.Go.OpenSpec := { _root_.Go.OpenSpec.ofChange s with cond := some uptoSmall }

/-- 'laws.FnAddLoad', WHERE WHAT IT READS IS OF BULK AT MOST 1048576: true; the input reads as it did. -/
def fnAddLoadUptoRow : OpenClaim := { program := "ytbpadfeplmmeeaa", sum := "7301831977d42fff60331376ad03155b7c70144268224b5efd40810a663853bc", func := "loop.example/connectionpool/laws.FnAddLoad", spec := "fnAddLoad", unfollowed := true, recurses := true, apart := false, narrowed := true }
def FnAddLoadUptoSaid : Prop := fnAddLoadUptoRow.holds Try.pinned (OpenSpec.upto fnAddLoadSpec)

/-- 'laws.FnAddLoadBack', WHERE WHAT IT READS IS OF BULK AT MOST 1048576: true; the input reads as it did. -/
def fnAddLoadBackUptoRow : OpenClaim := { program := "ytbpadfeplmmeeaa", sum := "7301831977d42fff60331376ad03155b7c70144268224b5efd40810a663853bc", func := "loop.example/connectionpool/laws.FnAddLoadBack", spec := "fnAddLoadBack", unfollowed := true, recurses := true, apart := false, narrowed := true }
def FnAddLoadBackUptoSaid : Prop := fnAddLoadBackUptoRow.holds Try.pinned (OpenSpec.upto fnAddLoadBackSpec)

/-- 'laws.FnExactAddLoad', WHERE WHAT IT READS IS OF BULK AT MOST 1048576: true; the input reads as it did. -/
def fnExactAddLoadUptoRow : OpenClaim := { program := "ytbpadfeplmmeeaa", sum := "7301831977d42fff60331376ad03155b7c70144268224b5efd40810a663853bc", func := "loop.example/connectionpool/laws.FnExactAddLoad", spec := "fnExactAddLoad", unfollowed := true, recurses := true, apart := false, narrowed := true }
def FnExactAddLoadUptoSaid : Prop := fnExactAddLoadUptoRow.holds Try.pinned (OpenSpec.upto fnExactAddLoadSpec)

/-- 'laws.FnRouteReadsShort', WHERE WHAT IT READS IS OF BULK AT MOST 1048576: true; the input reads as it did. -/
def fnRouteReadsShortUptoRow : OpenClaim := { program := "ytbpadfeplmmeeaa", sum := "7301831977d42fff60331376ad03155b7c70144268224b5efd40810a663853bc", func := "loop.example/connectionpool/laws.FnRouteReadsShort", spec := "fnRouteReadsShort", unfollowed := true, recurses := true, apart := false, narrowed := true }
def FnRouteReadsShortUptoSaid : Prop := fnRouteReadsShortUptoRow.holds Try.pinned (OpenSpec.upto fnRouteReadsShortSpec)

/-- 'laws.FnRouteReadsSpread', WHERE WHAT IT READS IS OF BULK AT MOST 1048576: true; the input reads as it did. -/
def fnRouteReadsSpreadUptoRow : OpenClaim := { program := "ytbpadfeplmmeeaa", sum := "7301831977d42fff60331376ad03155b7c70144268224b5efd40810a663853bc", func := "loop.example/connectionpool/laws.FnRouteReadsSpread", spec := "fnRouteReadsSpread", unfollowed := true, recurses := true, apart := false, narrowed := true }
def FnRouteReadsSpreadUptoSaid : Prop := fnRouteReadsSpreadUptoRow.holds Try.pinned (OpenSpec.upto fnRouteReadsSpreadSpec)

/-- 'laws.FnRouteReads', WHERE WHAT IT READS IS OF BULK AT MOST 1048576: true; the input reads as it did. -/
def fnRouteReadsUptoRow : OpenClaim := { program := "ytbpadfeplmmeeaa", sum := "7301831977d42fff60331376ad03155b7c70144268224b5efd40810a663853bc", func := "loop.example/connectionpool/laws.FnRouteReads", spec := "fnRouteReads", unfollowed := true, recurses := true, apart := false, narrowed := true }
def FnRouteReadsUptoSaid : Prop := fnRouteReadsUptoRow.holds Try.pinned (OpenSpec.upto fnRouteReadsSpec)

/-- 'laws.FnExactRouteReads', WHERE WHAT IT READS IS OF BULK AT MOST 1048576: true; the input reads as it did. -/
def fnExactRouteReadsUptoRow : OpenClaim := { program := "ytbpadfeplmmeeaa", sum := "7301831977d42fff60331376ad03155b7c70144268224b5efd40810a663853bc", func := "loop.example/connectionpool/laws.FnExactRouteReads", spec := "fnExactRouteReads", unfollowed := true, recurses := true, apart := false, narrowed := true }
def FnExactRouteReadsUptoSaid : Prop := fnExactRouteReadsUptoRow.holds Try.pinned (OpenSpec.upto fnExactRouteReadsSpec)

end Rows
end Go.Proofs.Ytbpadfeplmmeeaa
