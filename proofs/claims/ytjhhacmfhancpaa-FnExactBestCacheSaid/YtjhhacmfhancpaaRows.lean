/-
  No cell of these rows narrows 'for every input' (looked for: loops, veiled, ifaces, maps, wideKeys, modest, calm, conditions, laid).
  DERIVED. THE GIVEN ROWS OF THIS SEAT. 5 by the template 'for every input the law returns true; each argument reads behind the call as it read before'; 0 by the template 'total and deterministic' (their statements: YtjhhacmfhancpaaTotals.lean).
  GIVEN WITH THE SEED: the statements are not yours to turn. If you find one false, say at which input.
  Laid BY PROGRAM, IN A SANDBOX (cutbox-rows.mjs): the forced cells as the released guide's own fill.sh prints them over the translation 5f795f5003f0804b… (all of the seat's roots in one cut). By AI agents, Wed Nov 11 2026. No macro, syntax, notation, axiom, sorry.
-/
import Derived.Test.YtjhhacmfhancpaaChecked
import GoSem.Claim
import GoSem.ClaimJoined
import GoSem.ClaimMapViews
import Derived.JoinedTies
import Derived.KernelRfl
namespace Go.Proofs.Ytjhhacmfhancpaa
/- THE CELL 'sum', in the pinned program and in every row, IS THE sha256 OF THE DUMP (.gsa) THAT YtjhhacmfhancpaaProg.lean LOADS. Nothing in Lean hashes anything: it is a label: what it is worth is what the hold of that sum in a sandbox is worth. -/
noncomputable def Try.pinned : Pinned := { name := "ytjhhacmfhancpaa", sum := "5f795f5003f0804b828f9a4afc29978a0708f1be06e2e94c6d7393f759e53d87", checked := Try.checked }
namespace Rows
def none {H : Type} : Left H := { results := [], args := [] }

/-- 'laws.FnExactValidCache': WHATEVER THE INPUT: true; the input reads as it did. -/
def fnExactValidCacheSpec : ChangeSpec := { name := "fnExactValidCache", fn := fun _ => fun
  | [d] => { results := [.lit (.bool true)], args := [d] }
  | _ => none }
def fnExactValidCacheRow : OpenClaim := { program := "ytjhhacmfhancpaa", sum := "5f795f5003f0804b828f9a4afc29978a0708f1be06e2e94c6d7393f759e53d87", func := "loop.example/connectionpool/laws.FnExactValidCache", spec := "fnExactValidCache", apart := false }
def FnExactValidCacheSaid : Prop := fnExactValidCacheRow.holds Try.pinned (OpenSpec.ofChange fnExactValidCacheSpec)

/-- ITS FALSE NEIGHBOUR: 'it returns false'. Refute it at one input. -/
def fnExactValidCacheWrong : ChangeSpec := { name := "fnExactValidCache", fn := fun _ => fun
  | [d] => { results := [.lit (.bool false)], args := [d] }
  | _ => none }
def FnExactValidCacheWrongFalsely : Prop := fnExactValidCacheRow.holds Try.pinned (OpenSpec.ofChange fnExactValidCacheWrong)

/-- 'laws.FnExactDropStatement': WHATEVER THE INPUT: true; the input reads as it did. -/
def fnExactDropStatementSpec : ChangeSpec := { name := "fnExactDropStatement", fn := fun _ => fun
  | [d1, d2] => { results := [.lit (.bool true)], args := [d1, d2] }
  | _ => none }
def fnExactDropStatementRow : OpenClaim := { program := "ytjhhacmfhancpaa", sum := "5f795f5003f0804b828f9a4afc29978a0708f1be06e2e94c6d7393f759e53d87", func := "loop.example/connectionpool/laws.FnExactDropStatement", spec := "fnExactDropStatement", apart := false }
def FnExactDropStatementSaid : Prop := fnExactDropStatementRow.holds Try.pinned (OpenSpec.ofChange fnExactDropStatementSpec)

/-- ITS FALSE NEIGHBOUR: 'it returns false'. Refute it at one input. -/
def fnExactDropStatementWrong : ChangeSpec := { name := "fnExactDropStatement", fn := fun _ => fun
  | [d1, d2] => { results := [.lit (.bool false)], args := [d1, d2] }
  | _ => none }
def FnExactDropStatementWrongFalsely : Prop := fnExactDropStatementRow.holds Try.pinned (OpenSpec.ofChange fnExactDropStatementWrong)

/-- 'laws.FnExactUseStatement': WHATEVER THE INPUT: true; the input reads as it did. -/
def fnExactUseStatementSpec : ChangeSpec := { name := "fnExactUseStatement", fn := fun _ => fun
  | [d1, d2] => { results := [.lit (.bool true)], args := [d1, d2] }
  | _ => none }
def fnExactUseStatementRow : OpenClaim := { program := "ytjhhacmfhancpaa", sum := "5f795f5003f0804b828f9a4afc29978a0708f1be06e2e94c6d7393f759e53d87", func := "loop.example/connectionpool/laws.FnExactUseStatement", spec := "fnExactUseStatement", unfollowed := true, recurses := true, apart := false }
def FnExactUseStatementSaid : Prop := fnExactUseStatementRow.holds Try.pinned (OpenSpec.ofChange fnExactUseStatementSpec)

/-- ITS FALSE NEIGHBOUR: 'it returns false'. Refute it at one input. -/
def fnExactUseStatementWrong : ChangeSpec := { name := "fnExactUseStatement", fn := fun _ => fun
  | [d1, d2] => { results := [.lit (.bool false)], args := [d1, d2] }
  | _ => none }
def FnExactUseStatementWrongFalsely : Prop := fnExactUseStatementRow.holds Try.pinned (OpenSpec.ofChange fnExactUseStatementWrong)

/-- 'laws.FnExactCountPrepares': WHATEVER THE INPUT: true; the input reads as it did. -/
def fnExactCountPreparesSpec : ChangeSpec := { name := "fnExactCountPrepares", fn := fun _ => fun
  | [d1, d2] => { results := [.lit (.bool true)], args := [d1, d2] }
  | _ => none }
def fnExactCountPreparesRow : OpenClaim := { program := "ytjhhacmfhancpaa", sum := "5f795f5003f0804b828f9a4afc29978a0708f1be06e2e94c6d7393f759e53d87", func := "loop.example/connectionpool/laws.FnExactCountPrepares", spec := "fnExactCountPrepares", unfollowed := true, recurses := true, apart := false }
def FnExactCountPreparesSaid : Prop := fnExactCountPreparesRow.holds Try.pinned (OpenSpec.ofChange fnExactCountPreparesSpec)

/-- ITS FALSE NEIGHBOUR: 'it returns false'. Refute it at one input. -/
def fnExactCountPreparesWrong : ChangeSpec := { name := "fnExactCountPrepares", fn := fun _ => fun
  | [d1, d2] => { results := [.lit (.bool false)], args := [d1, d2] }
  | _ => none }
def FnExactCountPreparesWrongFalsely : Prop := fnExactCountPreparesRow.holds Try.pinned (OpenSpec.ofChange fnExactCountPreparesWrong)

/-- 'laws.FnExactBestCache': WHATEVER THE INPUT: true; the input reads as it did. -/
def fnExactBestCacheSpec : ChangeSpec := { name := "fnExactBestCache", fn := fun _ => fun
  | [d1, d2] => { results := [.lit (.bool true)], args := [d1, d2] }
  | _ => none }
def fnExactBestCacheRow : OpenClaim := { program := "ytjhhacmfhancpaa", sum := "5f795f5003f0804b828f9a4afc29978a0708f1be06e2e94c6d7393f759e53d87", func := "loop.example/connectionpool/laws.FnExactBestCache", spec := "fnExactBestCache", apart := false }
def FnExactBestCacheSaid : Prop := fnExactBestCacheRow.holds Try.pinned (OpenSpec.ofChange fnExactBestCacheSpec)

/-- ITS FALSE NEIGHBOUR: 'it returns false'. Refute it at one input. -/
def fnExactBestCacheWrong : ChangeSpec := { name := "fnExactBestCache", fn := fun _ => fun
  | [d1, d2] => { results := [.lit (.bool false)], args := [d1, d2] }
  | _ => none }
def FnExactBestCacheWrongFalsely : Prop := fnExactBestCacheRow.holds Try.pinned (OpenSpec.ofChange fnExactBestCacheWrong)

/- THE SECOND FORM. 'bulk': how many values and letters a reading holds, each counted each time it is reached (what is shared counts as often as it is met; a slice's spare places count too). A statement '..UptoSaid' is the law's where the arguments, and the package variables that the reading takes, are together of bulk at most 1048576: NARROWER than '..Said'. Prove '..Said' where nothing that the law and all that it calls make is longer than what came in: it says more and counts as full. Else prove '..UptoSaid'. A law counts once. -/
mutual
def uptoBulk {H : Type} : DataW H → Nat
  | .lit (.string bytes) => bytes.length + 1
  | .lit _ => 1
  | .nil => 1
  | .ptr d => uptoBulk d + 1
  | .slice elems spare => uptoBulkAll elems + uptoBulkAll spare + 1
  | .agg parts => uptoBulkAll parts + 1
  | .iface _ d => uptoBulk d + 1
  | .map entries => uptoBulkEntries entries + 1
  | .held _ => 1
def uptoBulkAll {H : Type} : List (DataW H) → Nat
  | [] => 0
  | d :: r => uptoBulk d + uptoBulkAll r
def uptoBulkEntries {H : Type} : List (Lit × DataW H) → Nat
  | [] => 0
  | x :: r => uptoBulkEntry x + uptoBulkEntries r
def uptoBulkEntry {H : Type} : Lit × DataW H → Nat
  | (.string bytes, d) => bytes.length + uptoBulk d + 1
  | (_, d) => uptoBulk d + 1
 end
def uptoSmall : (H : Type) → List (DataW H) → Bool := fun _ ds => decide (uptoBulkAll ds ≤ 1048576)
def OpenSpec.upto (s : _root_.Go.ChangeSpec) : _root_.Go.OpenSpec := { _root_.Go.OpenSpec.ofChange s with cond := some uptoSmall }

/-- 'laws.FnExactValidCache', WHERE WHAT IT READS IS OF BULK AT MOST 1048576: true; the input reads as it did. -/
def fnExactValidCacheUptoRow : OpenClaim := { program := "ytjhhacmfhancpaa", sum := "5f795f5003f0804b828f9a4afc29978a0708f1be06e2e94c6d7393f759e53d87", func := "loop.example/connectionpool/laws.FnExactValidCache", spec := "fnExactValidCache", apart := false, narrowed := true }
def FnExactValidCacheUptoSaid : Prop := fnExactValidCacheUptoRow.holds Try.pinned (OpenSpec.upto fnExactValidCacheSpec)

/-- 'laws.FnExactDropStatement', WHERE WHAT IT READS IS OF BULK AT MOST 1048576: true; the input reads as it did. -/
def fnExactDropStatementUptoRow : OpenClaim := { program := "ytjhhacmfhancpaa", sum := "5f795f5003f0804b828f9a4afc29978a0708f1be06e2e94c6d7393f759e53d87", func := "loop.example/connectionpool/laws.FnExactDropStatement", spec := "fnExactDropStatement", apart := false, narrowed := true }
def FnExactDropStatementUptoSaid : Prop := fnExactDropStatementUptoRow.holds Try.pinned (OpenSpec.upto fnExactDropStatementSpec)

/-- 'laws.FnExactUseStatement', WHERE WHAT IT READS IS OF BULK AT MOST 1048576: true; the input reads as it did. -/
def fnExactUseStatementUptoRow : OpenClaim := { program := "ytjhhacmfhancpaa", sum := "5f795f5003f0804b828f9a4afc29978a0708f1be06e2e94c6d7393f759e53d87", func := "loop.example/connectionpool/laws.FnExactUseStatement", spec := "fnExactUseStatement", unfollowed := true, recurses := true, apart := false, narrowed := true }
def FnExactUseStatementUptoSaid : Prop := fnExactUseStatementUptoRow.holds Try.pinned (OpenSpec.upto fnExactUseStatementSpec)

/-- 'laws.FnExactCountPrepares', WHERE WHAT IT READS IS OF BULK AT MOST 1048576: true; the input reads as it did. -/
def fnExactCountPreparesUptoRow : OpenClaim := { program := "ytjhhacmfhancpaa", sum := "5f795f5003f0804b828f9a4afc29978a0708f1be06e2e94c6d7393f759e53d87", func := "loop.example/connectionpool/laws.FnExactCountPrepares", spec := "fnExactCountPrepares", unfollowed := true, recurses := true, apart := false, narrowed := true }
def FnExactCountPreparesUptoSaid : Prop := fnExactCountPreparesUptoRow.holds Try.pinned (OpenSpec.upto fnExactCountPreparesSpec)

/-- 'laws.FnExactBestCache', WHERE WHAT IT READS IS OF BULK AT MOST 1048576: true; the input reads as it did. -/
def fnExactBestCacheUptoRow : OpenClaim := { program := "ytjhhacmfhancpaa", sum := "5f795f5003f0804b828f9a4afc29978a0708f1be06e2e94c6d7393f759e53d87", func := "loop.example/connectionpool/laws.FnExactBestCache", spec := "fnExactBestCache", apart := false, narrowed := true }
def FnExactBestCacheUptoSaid : Prop := fnExactBestCacheUptoRow.holds Try.pinned (OpenSpec.upto fnExactBestCacheSpec)

end Rows
end Go.Proofs.Ytjhhacmfhancpaa
