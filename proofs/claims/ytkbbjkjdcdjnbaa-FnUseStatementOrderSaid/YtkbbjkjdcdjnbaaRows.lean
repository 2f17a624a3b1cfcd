/-
  No cell of these rows narrows 'for every input' (looked for: loops, veiled, ifaces, maps, wideKeys, modest, calm, conditions, laid).
  DERIVED. THE GIVEN ROWS OF THIS SEAT. 7 by the template 'for every input the law returns true; each argument reads behind the call as it read before'; 0 by the template 'total and deterministic' (their statements: YtkbbjkjdcdjnbaaTotals.lean).
  GIVEN WITH THE SEED: the statements are not yours to turn. If you find one false, say at which input.
  Laid BY PROGRAM, IN A SANDBOX (cutbox-rows.mjs): the forced cells as the released guide's own fill.sh prints them over the translation 938f169e530abe9e… (all of the seat's roots in one cut). By AI agents, Wed Nov 11 2026. No macro, syntax, notation, axiom, sorry.
-/
import Derived.Test.YtkbbjkjdcdjnbaaChecked
import GoSem.Claim
import GoSem.ClaimJoined
import GoSem.ClaimMapViews
import Derived.JoinedTies
import Derived.KernelRfl
namespace Go.Proofs.Ytkbbjkjdcdjnbaa
/- THE CELL 'sum', in the pinned program and in every row, IS THE sha256 OF THE DUMP (.gsa) THAT YtkbbjkjdcdjnbaaProg.lean LOADS. Nothing in Lean hashes anything: it is a label: what it is worth is what the hold of that sum in a sandbox is worth. -/
noncomputable def Try.pinned : Pinned := { name := "ytkbbjkjdcdjnbaa", sum := "938f169e530abe9e645a0de1f2b93dd01c505250633696b97b13aafcd1c966e2", checked := Try.checked }
namespace Rows
def none {H : Type} : Left H := { results := [], args := [] }

/-- 'laws.FnValidCache': WHATEVER THE INPUT: true; the input reads as it did. -/
def fnValidCacheSpec : ChangeSpec := { name := "fnValidCache", fn := fun _ => fun
  | [d] => { results := [.lit (.bool true)], args := [d] }
  | _ => none }
def fnValidCacheRow : OpenClaim := { program := "ytkbbjkjdcdjnbaa", sum := "938f169e530abe9e645a0de1f2b93dd01c505250633696b97b13aafcd1c966e2", func := "loop.example/connectionpool/laws.FnValidCache", spec := "fnValidCache", apart := false }
def FnValidCacheSaid : Prop := fnValidCacheRow.holds Try.pinned (OpenSpec.ofChange fnValidCacheSpec)

/-- ITS FALSE NEIGHBOUR: 'it returns false'. Refute it at one input. -/
def fnValidCacheWrong : ChangeSpec := { name := "fnValidCache", fn := fun _ => fun
  | [d] => { results := [.lit (.bool false)], args := [d] }
  | _ => none }
def FnValidCacheWrongFalsely : Prop := fnValidCacheRow.holds Try.pinned (OpenSpec.ofChange fnValidCacheWrong)

/-- 'laws.FnUseStatementTwice': WHATEVER THE INPUT: true; the input reads as it did. -/
def fnUseStatementTwiceSpec : ChangeSpec := { name := "fnUseStatementTwice", fn := fun _ => fun
  | [d] => { results := [.lit (.bool true)], args := [d] }
  | _ => none }
def fnUseStatementTwiceRow : OpenClaim := { program := "ytkbbjkjdcdjnbaa", sum := "938f169e530abe9e645a0de1f2b93dd01c505250633696b97b13aafcd1c966e2", func := "loop.example/connectionpool/laws.FnUseStatementTwice", spec := "fnUseStatementTwice", unfollowed := true, recurses := true, apart := false }
def FnUseStatementTwiceSaid : Prop := fnUseStatementTwiceRow.holds Try.pinned (OpenSpec.ofChange fnUseStatementTwiceSpec)

/-- ITS FALSE NEIGHBOUR: 'it returns false'. Refute it at one input. -/
def fnUseStatementTwiceWrong : ChangeSpec := { name := "fnUseStatementTwice", fn := fun _ => fun
  | [d] => { results := [.lit (.bool false)], args := [d] }
  | _ => none }
def FnUseStatementTwiceWrongFalsely : Prop := fnUseStatementTwiceRow.holds Try.pinned (OpenSpec.ofChange fnUseStatementTwiceWrong)

/-- 'laws.FnUseStatement': WHATEVER THE INPUT: true; the input reads as it did. -/
def fnUseStatementSpec : ChangeSpec := { name := "fnUseStatement", fn := fun _ => fun
  | [d] => { results := [.lit (.bool true)], args := [d] }
  | _ => none }
def fnUseStatementRow : OpenClaim := { program := "ytkbbjkjdcdjnbaa", sum := "938f169e530abe9e645a0de1f2b93dd01c505250633696b97b13aafcd1c966e2", func := "loop.example/connectionpool/laws.FnUseStatement", spec := "fnUseStatement", unfollowed := true, recurses := true, apart := false }
def FnUseStatementSaid : Prop := fnUseStatementRow.holds Try.pinned (OpenSpec.ofChange fnUseStatementSpec)

/-- ITS FALSE NEIGHBOUR: 'it returns false'. Refute it at one input. -/
def fnUseStatementWrong : ChangeSpec := { name := "fnUseStatement", fn := fun _ => fun
  | [d] => { results := [.lit (.bool false)], args := [d] }
  | _ => none }
def FnUseStatementWrongFalsely : Prop := fnUseStatementRow.holds Try.pinned (OpenSpec.ofChange fnUseStatementWrong)

/-- 'laws.FnUseStatementRoom': WHATEVER THE INPUT: true; the input reads as it did. -/
def fnUseStatementRoomSpec : ChangeSpec := { name := "fnUseStatementRoom", fn := fun _ => fun
  | [d] => { results := [.lit (.bool true)], args := [d] }
  | _ => none }
def fnUseStatementRoomRow : OpenClaim := { program := "ytkbbjkjdcdjnbaa", sum := "938f169e530abe9e645a0de1f2b93dd01c505250633696b97b13aafcd1c966e2", func := "loop.example/connectionpool/laws.FnUseStatementRoom", spec := "fnUseStatementRoom", unfollowed := true, recurses := true, apart := false }
def FnUseStatementRoomSaid : Prop := fnUseStatementRoomRow.holds Try.pinned (OpenSpec.ofChange fnUseStatementRoomSpec)

/-- ITS FALSE NEIGHBOUR: 'it returns false'. Refute it at one input. -/
def fnUseStatementRoomWrong : ChangeSpec := { name := "fnUseStatementRoom", fn := fun _ => fun
  | [d] => { results := [.lit (.bool false)], args := [d] }
  | _ => none }
def FnUseStatementRoomWrongFalsely : Prop := fnUseStatementRoomRow.holds Try.pinned (OpenSpec.ofChange fnUseStatementRoomWrong)

/-- 'laws.FnUseStatementOrder': WHATEVER THE INPUT: true; the input reads as it did. -/
def fnUseStatementOrderSpec : ChangeSpec := { name := "fnUseStatementOrder", fn := fun _ => fun
  | [d] => { results := [.lit (.bool true)], args := [d] }
  | _ => none }
def fnUseStatementOrderRow : OpenClaim := { program := "ytkbbjkjdcdjnbaa", sum := "938f169e530abe9e645a0de1f2b93dd01c505250633696b97b13aafcd1c966e2", func := "loop.example/connectionpool/laws.FnUseStatementOrder", spec := "fnUseStatementOrder", unfollowed := true, recurses := true, apart := false }
def FnUseStatementOrderSaid : Prop := fnUseStatementOrderRow.holds Try.pinned (OpenSpec.ofChange fnUseStatementOrderSpec)

/-- ITS FALSE NEIGHBOUR: 'it returns false'. Refute it at one input. -/
def fnUseStatementOrderWrong : ChangeSpec := { name := "fnUseStatementOrder", fn := fun _ => fun
  | [d] => { results := [.lit (.bool false)], args := [d] }
  | _ => none }
def FnUseStatementOrderWrongFalsely : Prop := fnUseStatementOrderRow.holds Try.pinned (OpenSpec.ofChange fnUseStatementOrderWrong)

/-- 'laws.FnDropStatementUse': WHATEVER THE INPUT: true; the input reads as it did. -/
def fnDropStatementUseSpec : ChangeSpec := { name := "fnDropStatementUse", fn := fun _ => fun
  | [d] => { results := [.lit (.bool true)], args := [d] }
  | _ => none }
def fnDropStatementUseRow : OpenClaim := { program := "ytkbbjkjdcdjnbaa", sum := "938f169e530abe9e645a0de1f2b93dd01c505250633696b97b13aafcd1c966e2", func := "loop.example/connectionpool/laws.FnDropStatementUse", spec := "fnDropStatementUse", unfollowed := true, recurses := true, apart := false }
def FnDropStatementUseSaid : Prop := fnDropStatementUseRow.holds Try.pinned (OpenSpec.ofChange fnDropStatementUseSpec)

/-- ITS FALSE NEIGHBOUR: 'it returns false'. Refute it at one input. -/
def fnDropStatementUseWrong : ChangeSpec := { name := "fnDropStatementUse", fn := fun _ => fun
  | [d] => { results := [.lit (.bool false)], args := [d] }
  | _ => none }
def FnDropStatementUseWrongFalsely : Prop := fnDropStatementUseRow.holds Try.pinned (OpenSpec.ofChange fnDropStatementUseWrong)

/-- 'laws.FnDropStatement': WHATEVER THE INPUT: true; the input reads as it did. -/
def fnDropStatementSpec : ChangeSpec := { name := "fnDropStatement", fn := fun _ => fun
  | [d] => { results := [.lit (.bool true)], args := [d] }
  | _ => none }
def fnDropStatementRow : OpenClaim := { program := "ytkbbjkjdcdjnbaa", sum := "938f169e530abe9e645a0de1f2b93dd01c505250633696b97b13aafcd1c966e2", func := "loop.example/connectionpool/laws.FnDropStatement", spec := "fnDropStatement", unfollowed := true, recurses := true, apart := false }
def FnDropStatementSaid : Prop := fnDropStatementRow.holds Try.pinned (OpenSpec.ofChange fnDropStatementSpec)

/-- ITS FALSE NEIGHBOUR: 'it returns false'. Refute it at one input. -/
def fnDropStatementWrong : ChangeSpec := { name := "fnDropStatement", fn := fun _ => fun
  | [d] => { results := [.lit (.bool false)], args := [d] }
  | _ => none }
def FnDropStatementWrongFalsely : Prop := fnDropStatementRow.holds Try.pinned (OpenSpec.ofChange fnDropStatementWrong)

/- THE SECOND FORM. 'bulk': how many values and letters a reading holds, each counted each time it is reached (what is shared counts as often as it is met; a slice's spare places count too). A statement '..UptoSaid' is the law's where the arguments, and the package variables that the reading takes, are together of bulk at most 1048576: NARROWER than '..Said'. Prove '..Said' where nothing that the law and all that it calls make is longer than what came in: it says more and counts as full. Else prove '..UptoSaid'. A law counts once. -/
mutual
def uptoBulk {H : Type} : DataW H → Nat
  | .lit (.string bytes) => bytes.length + 1
  | .lit _ => 1
  | .nil => 1
  | .ptr d => uptoBulk d + 1
  | .slice elems spare => uptoBulkAll elems + uptoBulkAll spare + 1
  | .agg parts => uptoBulkAll parts + 1
  | .iface _ d => uptoBulk d + 1
  | .map entries => uptoBulkEntries entries + 1
  | .held _ => 1
def uptoBulkAll {H : Type} : List (DataW H) → Nat
  | [] => 0
  | d :: r => uptoBulk d + uptoBulkAll r
def uptoBulkEntries {H : Type} : List (Lit × DataW H) → Nat
  | [] => 0
  | x :: r => uptoBulkEntry x + uptoBulkEntries r
def uptoBulkEntry {H : Type} : Lit × DataW H → Nat
  | (.string bytes, d) => bytes.length + uptoBulk d + 1
  | (_, d) => uptoBulk d + 1
 end
def uptoSmall : (H : Type) → List (DataW H) → Bool := fun _ ds => decide (uptoBulkAll ds ≤ 1048576)
def OpenSpec.upto (s : _root_.Go.ChangeSpec) : _root_.Go.OpenSpec := { _root_.Go.OpenSpec.ofChange s with cond := some uptoSmall }

/-- 'laws.FnValidCache', WHERE WHAT IT READS IS OF BULK AT MOST 1048576: true; the input reads as it did. -/
def fnValidCacheUptoRow : OpenClaim := { program := "ytkbbjkjdcdjnbaa", sum := "938f169e530abe9e645a0de1f2b93dd01c505250633696b97b13aafcd1c966e2", func := "loop.example/connectionpool/laws.FnValidCache", spec := "fnValidCache", apart := false, narrowed := true }
def FnValidCacheUptoSaid : Prop := fnValidCacheUptoRow.holds Try.pinned (OpenSpec.upto fnValidCacheSpec)

/-- 'laws.FnUseStatementTwice', WHERE WHAT IT READS IS OF BULK AT MOST 1048576: true; the input reads as it did. -/
def fnUseStatementTwiceUptoRow : OpenClaim := { program := "ytkbbjkjdcdjnbaa", sum := "938f169e530abe9e645a0de1f2b93dd01c505250633696b97b13aafcd1c966e2", func := "loop.example/connectionpool/laws.FnUseStatementTwice", spec := "fnUseStatementTwice", unfollowed := true, recurses := true, apart := false, narrowed := true }
def FnUseStatementTwiceUptoSaid : Prop := fnUseStatementTwiceUptoRow.holds Try.pinned (OpenSpec.upto fnUseStatementTwiceSpec)

/-- 'laws.FnUseStatement', WHERE WHAT IT READS IS OF BULK AT MOST 1048576: true; the input reads as it did. -/
def fnUseStatementUptoRow : OpenClaim := { program := "ytkbbjkjdcdjnbaa", sum := "938f169e530abe9e645a0de1f2b93dd01c505250633696b97b13aafcd1c966e2", func := "loop.example/connectionpool/laws.FnUseStatement", spec := "fnUseStatement", unfollowed := true, recurses := true, apart := false, narrowed := true }
def FnUseStatementUptoSaid : Prop := fnUseStatementUptoRow.holds Try.pinned (OpenSpec.upto fnUseStatementSpec)

/-- 'laws.FnUseStatementRoom', WHERE WHAT IT READS IS OF BULK AT MOST 1048576: true; the input reads as it did. -/
def fnUseStatementRoomUptoRow : OpenClaim := { program := "ytkbbjkjdcdjnbaa", sum := "938f169e530abe9e645a0de1f2b93dd01c505250633696b97b13aafcd1c966e2", func := "loop.example/connectionpool/laws.FnUseStatementRoom", spec := "fnUseStatementRoom", unfollowed := true, recurses := true, apart := false, narrowed := true }
def FnUseStatementRoomUptoSaid : Prop := fnUseStatementRoomUptoRow.holds Try.pinned (OpenSpec.upto fnUseStatementRoomSpec)

/-- 'laws.FnUseStatementOrder', WHERE WHAT IT READS IS OF BULK AT MOST 1048576: true; the input reads as it did. -/
def fnUseStatementOrderUptoRow : OpenClaim := { program := "ytkbbjkjdcdjnbaa", sum := "938f169e530abe9e645a0de1f2b93dd01c505250633696b97b13aafcd1c966e2", func := "loop.example/connectionpool/laws.FnUseStatementOrder", spec := "fnUseStatementOrder", unfollowed := true, recurses := true, apart := false, narrowed := true }
def FnUseStatementOrderUptoSaid : Prop := fnUseStatementOrderUptoRow.holds Try.pinned (OpenSpec.upto fnUseStatementOrderSpec)

/-- 'laws.FnDropStatementUse', WHERE WHAT IT READS IS OF BULK AT MOST 1048576: true; the input reads as it did. -/
def fnDropStatementUseUptoRow : OpenClaim := { program := "ytkbbjkjdcdjnbaa", sum := "938f169e530abe9e645a0de1f2b93dd01c505250633696b97b13aafcd1c966e2", func := "loop.example/connectionpool/laws.FnDropStatementUse", spec := "fnDropStatementUse", unfollowed := true, recurses := true, apart := false, narrowed := true }
def FnDropStatementUseUptoSaid : Prop := fnDropStatementUseUptoRow.holds Try.pinned (OpenSpec.upto fnDropStatementUseSpec)

/-- 'laws.FnDropStatement', WHERE WHAT IT READS IS OF BULK AT MOST 1048576: true; the input reads as it did. -/
def fnDropStatementUptoRow : OpenClaim := { program := "ytkbbjkjdcdjnbaa", sum := "938f169e530abe9e645a0de1f2b93dd01c505250633696b97b13aafcd1c966e2", func := "loop.example/connectionpool/laws.FnDropStatement", spec := "fnDropStatement", unfollowed := true, recurses := true, apart := false, narrowed := true }
def FnDropStatementUptoSaid : Prop := fnDropStatementUptoRow.holds Try.pinned (OpenSpec.upto fnDropStatementSpec)

end Rows
end Go.Proofs.Ytkbbjkjdcdjnbaa
