/-
  No cell of these rows narrows 'for every input' (looked for: loops, veiled, ifaces, maps, wideKeys, modest, calm, conditions, laid).
  DERIVED. THE GIVEN ROWS OF THIS SEAT. 8 by the template 'for every input the law returns true; each argument reads behind the call as it read before'; 0 by the template 'total and deterministic' (their statements: YtifoecghanmofaaTotals.lean).
  GIVEN WITH THE SEED: the statements are not yours to turn. If you find one false, say at which input.
  Laid BY PROGRAM, IN A SANDBOX (cutbox-rows.mjs): the forced cells as the released guide's own fill.sh prints them over the translation 5399751199fafd99… (all of the seat's roots in one cut). By AI agents, Wed Nov 11 2026. No macro, syntax, notation, axiom, sorry.
-/
import Derived.Test.YtifoecghanmofaaChecked
import GoSem.Claim
import GoSem.ClaimJoined
import GoSem.ClaimMapViews
import Derived.JoinedTies
import Derived.KernelRfl
namespace Go.Proofs.Ytifoecghanmofaa
/- THE CELL 'sum', in the pinned program and in every row, IS THE sha256 OF THE DUMP (.gsa) THAT YtifoecghanmofaaProg.lean LOADS. Nothing in Lean hashes anything: it is a label: what it is worth is what the hold of that sum in a sandbox is worth. -/
noncomputable def Try.pinned : Pinned := { name := "ytifoecghanmofaa", sum := "5399751199fafd99eb7794db7daadcbfbcaf88bb2a4c11878e1cd49083bb8707", checked := Try.checked }
namespace Rows
def none {H : Type} : Left H := { results := [], args := [] }

/-- 'laws.FnValidHosts': WHATEVER THE INPUT: true; the input reads as it did. -/
def fnValidHostsSpec : ChangeSpec := { name := "fnValidHosts", fn := fun _ => fun
  | [d] => { results := [.lit (.bool true)], args := [d] }
  | _ => none }
def fnValidHostsRow : OpenClaim := { program := "ytifoecghanmofaa", sum := "5399751199fafd99eb7794db7daadcbfbcaf88bb2a4c11878e1cd49083bb8707", func := "loop.example/connectionpool/laws.FnValidHosts", spec := "fnValidHosts", unfollowed := true, recurses := true, apart := false }
def FnValidHostsSaid : Prop := fnValidHostsRow.holds Try.pinned (OpenSpec.ofChange fnValidHostsSpec)

/-- ITS FALSE NEIGHBOUR: 'it returns false'. Refute it at one input. -/
def fnValidHostsWrong : ChangeSpec := { name := "fnValidHosts", fn := fun _ => fun
  | [d] => { results := [.lit (.bool false)], args := [d] }
  | _ => none }
def FnValidHostsWrongFalsely : Prop := fnValidHostsRow.holds Try.pinned (OpenSpec.ofChange fnValidHostsWrong)

/-- 'laws.FnExactValidHosts': WHATEVER THE INPUT: true; the input reads as it did. -/
def fnExactValidHostsSpec : ChangeSpec := { name := "fnExactValidHosts", fn := fun _ => fun
  | [d] => { results := [.lit (.bool true)], args := [d] }
  | _ => none }
def fnExactValidHostsRow : OpenClaim := { program := "ytifoecghanmofaa", sum := "5399751199fafd99eb7794db7daadcbfbcaf88bb2a4c11878e1cd49083bb8707", func := "loop.example/connectionpool/laws.FnExactValidHosts", spec := "fnExactValidHosts", unfollowed := true, recurses := true, apart := false }
def FnExactValidHostsSaid : Prop := fnExactValidHostsRow.holds Try.pinned (OpenSpec.ofChange fnExactValidHostsSpec)

/-- ITS FALSE NEIGHBOUR: 'it returns false'. Refute it at one input. -/
def fnExactValidHostsWrong : ChangeSpec := { name := "fnExactValidHosts", fn := fun _ => fun
  | [d] => { results := [.lit (.bool false)], args := [d] }
  | _ => none }
def FnExactValidHostsWrongFalsely : Prop := fnExactValidHostsRow.holds Try.pinned (OpenSpec.ofChange fnExactValidHostsWrong)

/-- 'laws.FnExactRouteWrite': WHATEVER THE INPUT: true; the input reads as it did. -/
def fnExactRouteWriteSpec : ChangeSpec := { name := "fnExactRouteWrite", fn := fun _ => fun
  | [d] => { results := [.lit (.bool true)], args := [d] }
  | _ => none }
def fnExactRouteWriteRow : OpenClaim := { program := "ytifoecghanmofaa", sum := "5399751199fafd99eb7794db7daadcbfbcaf88bb2a4c11878e1cd49083bb8707", func := "loop.example/connectionpool/laws.FnExactRouteWrite", spec := "fnExactRouteWrite", unfollowed := true, recurses := true, apart := false }
def FnExactRouteWriteSaid : Prop := fnExactRouteWriteRow.holds Try.pinned (OpenSpec.ofChange fnExactRouteWriteSpec)

/-- ITS FALSE NEIGHBOUR: 'it returns false'. Refute it at one input. -/
def fnExactRouteWriteWrong : ChangeSpec := { name := "fnExactRouteWrite", fn := fun _ => fun
  | [d] => { results := [.lit (.bool false)], args := [d] }
  | _ => none }
def FnExactRouteWriteWrongFalsely : Prop := fnExactRouteWriteRow.holds Try.pinned (OpenSpec.ofChange fnExactRouteWriteWrong)

/-- 'laws.FnRouteWrite': WHATEVER THE INPUT: true; the input reads as it did. -/
def fnRouteWriteSpec : ChangeSpec := { name := "fnRouteWrite", fn := fun _ => fun
  | [d] => { results := [.lit (.bool true)], args := [d] }
  | _ => none }
def fnRouteWriteRow : OpenClaim := { program := "ytifoecghanmofaa", sum := "5399751199fafd99eb7794db7daadcbfbcaf88bb2a4c11878e1cd49083bb8707", func := "loop.example/connectionpool/laws.FnRouteWrite", spec := "fnRouteWrite", unfollowed := true, recurses := true, apart := false }
def FnRouteWriteSaid : Prop := fnRouteWriteRow.holds Try.pinned (OpenSpec.ofChange fnRouteWriteSpec)

/-- ITS FALSE NEIGHBOUR: 'it returns false'. Refute it at one input. -/
def fnRouteWriteWrong : ChangeSpec := { name := "fnRouteWrite", fn := fun _ => fun
  | [d] => { results := [.lit (.bool false)], args := [d] }
  | _ => none }
def FnRouteWriteWrongFalsely : Prop := fnRouteWriteRow.holds Try.pinned (OpenSpec.ofChange fnRouteWriteWrong)

/-- 'laws.FnRouteRead': WHATEVER THE INPUT: true; the input reads as it did. -/
def fnRouteReadSpec : ChangeSpec := { name := "fnRouteRead", fn := fun _ => fun
  | [d] => { results := [.lit (.bool true)], args := [d] }
  | _ => none }
def fnRouteReadRow : OpenClaim := { program := "ytifoecghanmofaa", sum := "5399751199fafd99eb7794db7daadcbfbcaf88bb2a4c11878e1cd49083bb8707", func := "loop.example/connectionpool/laws.FnRouteRead", spec := "fnRouteRead", unfollowed := true, recurses := true, apart := false }
def FnRouteReadSaid : Prop := fnRouteReadRow.holds Try.pinned (OpenSpec.ofChange fnRouteReadSpec)

/-- ITS FALSE NEIGHBOUR: 'it returns false'. Refute it at one input. -/
def fnRouteReadWrong : ChangeSpec := { name := "fnRouteRead", fn := fun _ => fun
  | [d] => { results := [.lit (.bool false)], args := [d] }
  | _ => none }
def FnRouteReadWrongFalsely : Prop := fnRouteReadRow.holds Try.pinned (OpenSpec.ofChange fnRouteReadWrong)

/-- 'laws.FnRouteReadLag': WHATEVER THE INPUT: true; the input reads as it did. -/
def fnRouteReadLagSpec : ChangeSpec := { name := "fnRouteReadLag", fn := fun _ => fun
  | [d] => { results := [.lit (.bool true)], args := [d] }
  | _ => none }
def fnRouteReadLagRow : OpenClaim := { program := "ytifoecghanmofaa", sum := "5399751199fafd99eb7794db7daadcbfbcaf88bb2a4c11878e1cd49083bb8707", func := "loop.example/connectionpool/laws.FnRouteReadLag", spec := "fnRouteReadLag", unfollowed := true, recurses := true, apart := false }
def FnRouteReadLagSaid : Prop := fnRouteReadLagRow.holds Try.pinned (OpenSpec.ofChange fnRouteReadLagSpec)

/-- ITS FALSE NEIGHBOUR: 'it returns false'. Refute it at one input. -/
def fnRouteReadLagWrong : ChangeSpec := { name := "fnRouteReadLag", fn := fun _ => fun
  | [d] => { results := [.lit (.bool false)], args := [d] }
  | _ => none }
def FnRouteReadLagWrongFalsely : Prop := fnRouteReadLagRow.holds Try.pinned (OpenSpec.ofChange fnRouteReadLagWrong)

/-- 'laws.FnRouteReadDown': WHATEVER THE INPUT: true; the input reads as it did. -/
def fnRouteReadDownSpec : ChangeSpec := { name := "fnRouteReadDown", fn := fun _ => fun
  | [d] => { results := [.lit (.bool true)], args := [d] }
  | _ => none }
def fnRouteReadDownRow : OpenClaim := { program := "ytifoecghanmofaa", sum := "5399751199fafd99eb7794db7daadcbfbcaf88bb2a4c11878e1cd49083bb8707", func := "loop.example/connectionpool/laws.FnRouteReadDown", spec := "fnRouteReadDown", unfollowed := true, recurses := true, apart := false }
def FnRouteReadDownSaid : Prop := fnRouteReadDownRow.holds Try.pinned (OpenSpec.ofChange fnRouteReadDownSpec)

/-- ITS FALSE NEIGHBOUR: 'it returns false'. Refute it at one input. -/
def fnRouteReadDownWrong : ChangeSpec := { name := "fnRouteReadDown", fn := fun _ => fun
  | [d] => { results := [.lit (.bool false)], args := [d] }
  | _ => none }
def FnRouteReadDownWrongFalsely : Prop := fnRouteReadDownRow.holds Try.pinned (OpenSpec.ofChange fnRouteReadDownWrong)

/-- 'laws.FnExactRouteRead': WHATEVER THE INPUT: true; the input reads as it did. -/
def fnExactRouteReadSpec : ChangeSpec := { name := "fnExactRouteRead", fn := fun _ => fun
  | [d1, d2] => { results := [.lit (.bool true)], args := [d1, d2] }
  | _ => none }
def fnExactRouteReadRow : OpenClaim := { program := "ytifoecghanmofaa", sum := "5399751199fafd99eb7794db7daadcbfbcaf88bb2a4c11878e1cd49083bb8707", func := "loop.example/connectionpool/laws.FnExactRouteRead", spec := "fnExactRouteRead", unfollowed := true, recurses := true, apart := false }
def FnExactRouteReadSaid : Prop := fnExactRouteReadRow.holds Try.pinned (OpenSpec.ofChange fnExactRouteReadSpec)

/-- ITS FALSE NEIGHBOUR: 'it returns false'. Refute it at one input. -/
def fnExactRouteReadWrong : ChangeSpec := { name := "fnExactRouteRead", fn := fun _ => fun
  | [d1, d2] => { results := [.lit (.bool false)], args := [d1, d2] }
  | _ => none }
def FnExactRouteReadWrongFalsely : Prop := fnExactRouteReadRow.holds Try.pinned (OpenSpec.ofChange fnExactRouteReadWrong)

/- THE SECOND FORM. 'bulk': how many values and letters a reading holds, each counted each time it is reached (what is shared counts as often as it is met; a slice's spare places count too). A statement '..UptoSaid' is the law's where the arguments, and the package variables that the reading takes, are together of bulk at most 1048576: NARROWER than '..Said'. Prove '..Said' where nothing that the law and all that it calls make is longer than what came in: it says more and counts as full. Else prove '..UptoSaid'. A law counts once. -/
mutual
def uptoBulk {H : Type} : DataW H → Nat
  | .lit (.string bytes) => bytes.length + 1
  | .lit _ => 1
  | .nil => 1
  | .ptr d => uptoBulk d + 1
  | .slice elems spare => uptoBulkAll elems + uptoBulkAll spare + 1
  | .agg parts => uptoBulkAll parts + 1
  | .iface _ d => uptoBulk d + 1
  | .map entries => uptoBulkEntries entries + 1
  | .held _ => 1
def uptoBulkAll {H : Type} : List (DataW H) → Nat
  | [] => 0
  | d :: r => uptoBulk d + uptoBulkAll r
def uptoBulkEntries {H : Type} : List (Lit × DataW H) → Nat
  | [] => 0
  | x :: r => uptoBulkEntry x + uptoBulkEntries r
def uptoBulkEntry {H : Type} : Lit × DataW H → Nat
  | (.string bytes, d) => bytes.length + uptoBulk d + 1
  | (_, d) => uptoBulk d + 1
 end
def uptoSmall : (H : Type) → List (DataW H) → Bool := fun _ ds => decide (uptoBulkAll ds ≤ 1048576)
def OpenSpec.upto (s : _root_.Go.ChangeSpec) : _root_.Go.OpenSpec := { _root_.Go.OpenSpec.ofChange s with cond := some uptoSmall }

/-- 'laws.FnValidHosts', WHERE WHAT IT READS IS OF BULK AT MOST 1048576: true; the input reads as it did. -/
def fnValidHostsUptoRow : OpenClaim := { program := "ytifoecghanmofaa", sum := "5399751199fafd99eb7794db7daadcbfbcaf88bb2a4c11878e1cd49083bb8707", func := "loop.example/connectionpool/laws.FnValidHosts", spec := "fnValidHosts", unfollowed := true, recurses := true, apart := false, narrowed := true }
def FnValidHostsUptoSaid : Prop := fnValidHostsUptoRow.holds Try.pinned (OpenSpec.upto fnValidHostsSpec)

/-- 'laws.FnExactValidHosts', WHERE WHAT IT READS IS OF BULK AT MOST 1048576: true; the input reads as it did. -/
def fnExactValidHostsUptoRow : OpenClaim := { program := "ytifoecghanmofaa", sum := "5399751199fafd99eb7794db7daadcbfbcaf88bb2a4c11878e1cd49083bb8707", func := "loop.example/connectionpool/laws.FnExactValidHosts", spec := "fnExactValidHosts", unfollowed := true, recurses := true, apart := false, narrowed := true }
def FnExactValidHostsUptoSaid : Prop := fnExactValidHostsUptoRow.holds Try.pinned (OpenSpec.upto fnExactValidHostsSpec)

/-- 'laws.FnExactRouteWrite', WHERE WHAT IT READS IS OF BULK AT MOST 1048576: true; the input reads as it did. -/
def fnExactRouteWriteUptoRow : OpenClaim := { program := "ytifoecghanmofaa", sum := "5399751199fafd99eb7794db7daadcbfbcaf88bb2a4c11878e1cd49083bb8707", func := "loop.example/connectionpool/laws.FnExactRouteWrite", spec := "fnExactRouteWrite", unfollowed := true, recurses := true, apart := false, narrowed := true }
def FnExactRouteWriteUptoSaid : Prop := fnExactRouteWriteUptoRow.holds Try.pinned (OpenSpec.upto fnExactRouteWriteSpec)

/-- 'laws.FnRouteWrite', WHERE WHAT IT READS IS OF BULK AT MOST 1048576: true; the input reads as it did. -/
def fnRouteWriteUptoRow : OpenClaim := { program := "ytifoecghanmofaa", sum := "5399751199fafd99eb7794db7daadcbfbcaf88bb2a4c11878e1cd49083bb8707", func := "loop.example/connectionpool/laws.FnRouteWrite", spec := "fnRouteWrite", unfollowed := true, recurses := true, apart := false, narrowed := true }
def FnRouteWriteUptoSaid : Prop := fnRouteWriteUptoRow.holds Try.pinned (OpenSpec.upto fnRouteWriteSpec)

/-- 'laws.FnRouteRead', WHERE WHAT IT READS IS OF BULK AT MOST 1048576: true; the input reads as it did. -/
def fnRouteReadUptoRow : OpenClaim := { program := "ytifoecghanmofaa", sum := "5399751199fafd99eb7794db7daadcbfbcaf88bb2a4c11878e1cd49083bb8707", func := "loop.example/connectionpool/laws.FnRouteRead", spec := "fnRouteRead", unfollowed := true, recurses := true, apart := false, narrowed := true }
def FnRouteReadUptoSaid : Prop := fnRouteReadUptoRow.holds Try.pinned (OpenSpec.upto fnRouteReadSpec)

/-- 'laws.FnRouteReadLag', WHERE WHAT IT READS IS OF BULK AT MOST 1048576: true; the input reads as it did. -/
def fnRouteReadLagUptoRow : OpenClaim := { program := "ytifoecghanmofaa", sum := "5399751199fafd99eb7794db7daadcbfbcaf88bb2a4c11878e1cd49083bb8707", func := "loop.example/connectionpool/laws.FnRouteReadLag", spec := "fnRouteReadLag", unfollowed := true, recurses := true, apart := false, narrowed := true }
def FnRouteReadLagUptoSaid : Prop := fnRouteReadLagUptoRow.holds Try.pinned (OpenSpec.upto fnRouteReadLagSpec)

/-- 'laws.FnRouteReadDown', WHERE WHAT IT READS IS OF BULK AT MOST 1048576: true; the input reads as it did. -/
def fnRouteReadDownUptoRow : OpenClaim := { program := "ytifoecghanmofaa", sum := "5399751199fafd99eb7794db7daadcbfbcaf88bb2a4c11878e1cd49083bb8707", func := "loop.example/connectionpool/laws.FnRouteReadDown", spec := "fnRouteReadDown", unfollowed := true, recurses := true, apart := false, narrowed := true }
def FnRouteReadDownUptoSaid : Prop := fnRouteReadDownUptoRow.holds Try.pinned (OpenSpec.upto fnRouteReadDownSpec)

/-- 'laws.FnExactRouteRead', WHERE WHAT IT READS IS OF BULK AT MOST 1048576: true; the input reads as it did. -/
def fnExactRouteReadUptoRow : OpenClaim := { program := "ytifoecghanmofaa", sum := "5399751199fafd99eb7794db7daadcbfbcaf88bb2a4c11878e1cd49083bb8707", func := "loop.example/connectionpool/laws.FnExactRouteRead", spec := "fnExactRouteRead", unfollowed := true, recurses := true, apart := false, narrowed := true }
def FnExactRouteReadUptoSaid : Prop := fnExactRouteReadUptoRow.holds Try.pinned (OpenSpec.upto fnExactRouteReadSpec)

end Rows
end Go.Proofs.Ytifoecghanmofaa
