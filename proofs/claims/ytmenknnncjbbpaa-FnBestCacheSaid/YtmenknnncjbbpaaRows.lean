/-
  No cell of these rows narrows 'for every input' (looked for: loops, veiled, ifaces, maps, wideKeys, modest, calm, conditions, laid).
  DERIVED. THE GIVEN ROWS OF THIS SEAT. 5 by the template 'for every input the law returns true; each argument reads behind the call as it read before'; 0 by the template 'total and deterministic' (their statements: YtmenknnncjbbpaaTotals.lean).
  GIVEN WITH THE SEED: the statements are not yours to turn. If you find one false, say at which input.
  Laid BY PROGRAM, IN A SANDBOX (cutbox-rows.mjs): the forced cells as the released guide's own fill.sh prints them over the translation 95a248cccecd01bf… (all of the seat's roots in one cut). By AI agents, Wed Nov 11 2026. No macro, syntax, notation, axiom, sorry.
-/
import Derived.Test.YtmenknnncjbbpaaChecked
import GoSem.Claim
import GoSem.ClaimJoined
import GoSem.ClaimMapViews
import Derived.JoinedTies
import Derived.KernelRfl
namespace Go.Proofs.Ytmenknnncjbbpaa
/- THE CELL 'sum', in the pinned program and in every row, IS THE sha256 OF THE DUMP (.gsa) THAT YtmenknnncjbbpaaProg.lean LOADS. Nothing in Lean hashes anything: it is a label: what it is worth is what the hold of that sum in a sandbox is worth. -/
noncomputable def Try.pinned : Pinned := { name := "ytmenknnncjbbpaa", sum := "95a248cccecd01bff19e12d558d5176b86936b26dd062ce5c637347008d76a5e", checked := Try.checked }
namespace Rows
def none {H : Type} : Left H := { results := [], args := [] }

/-- 'laws.FnBestCacheNone': WHATEVER THE INPUT: true; the input reads as it did. -/
def fnBestCacheNoneSpec : ChangeSpec := { name := "fnBestCacheNone", fn := fun _ => fun
  | [d] => { results := [.lit (.bool true)], args := [d] }
  | _ => none }
def fnBestCacheNoneRow : OpenClaim := { program := "ytmenknnncjbbpaa", sum := "95a248cccecd01bff19e12d558d5176b86936b26dd062ce5c637347008d76a5e", func := "loop.example/connectionpool/laws.FnBestCacheNone", spec := "fnBestCacheNone", apart := false }
def FnBestCacheNoneSaid : Prop := fnBestCacheNoneRow.holds Try.pinned (OpenSpec.ofChange fnBestCacheNoneSpec)

/-- ITS FALSE NEIGHBOUR: 'it returns false'. Refute it at one input. -/
def fnBestCacheNoneWrong : ChangeSpec := { name := "fnBestCacheNone", fn := fun _ => fun
  | [d] => { results := [.lit (.bool false)], args := [d] }
  | _ => none }
def FnBestCacheNoneWrongFalsely : Prop := fnBestCacheNoneRow.holds Try.pinned (OpenSpec.ofChange fnBestCacheNoneWrong)

/-- 'laws.FnBestCache': WHATEVER THE INPUT: true; the input reads as it did. -/
def fnBestCacheSpec : ChangeSpec := { name := "fnBestCache", fn := fun _ => fun
  | [d] => { results := [.lit (.bool true)], args := [d] }
  | _ => none }
def fnBestCacheRow : OpenClaim := { program := "ytmenknnncjbbpaa", sum := "95a248cccecd01bff19e12d558d5176b86936b26dd062ce5c637347008d76a5e", func := "loop.example/connectionpool/laws.FnBestCache", spec := "fnBestCache", apart := false }
def FnBestCacheSaid : Prop := fnBestCacheRow.holds Try.pinned (OpenSpec.ofChange fnBestCacheSpec)

/-- ITS FALSE NEIGHBOUR: 'it returns false'. Refute it at one input. -/
def fnBestCacheWrong : ChangeSpec := { name := "fnBestCache", fn := fun _ => fun
  | [d] => { results := [.lit (.bool false)], args := [d] }
  | _ => none }
def FnBestCacheWrongFalsely : Prop := fnBestCacheRow.holds Try.pinned (OpenSpec.ofChange fnBestCacheWrong)

/-- 'laws.FnCountPreparesRoom': WHATEVER THE INPUT: true; the input reads as it did. -/
def fnCountPreparesRoomSpec : ChangeSpec := { name := "fnCountPreparesRoom", fn := fun _ => fun
  | [d] => { results := [.lit (.bool true)], args := [d] }
  | _ => none }
def fnCountPreparesRoomRow : OpenClaim := { program := "ytmenknnncjbbpaa", sum := "95a248cccecd01bff19e12d558d5176b86936b26dd062ce5c637347008d76a5e", func := "loop.example/connectionpool/laws.FnCountPreparesRoom", spec := "fnCountPreparesRoom", unfollowed := true, recurses := true, apart := false }
def FnCountPreparesRoomSaid : Prop := fnCountPreparesRoomRow.holds Try.pinned (OpenSpec.ofChange fnCountPreparesRoomSpec)

/-- ITS FALSE NEIGHBOUR: 'it returns false'. Refute it at one input. -/
def fnCountPreparesRoomWrong : ChangeSpec := { name := "fnCountPreparesRoom", fn := fun _ => fun
  | [d] => { results := [.lit (.bool false)], args := [d] }
  | _ => none }
def FnCountPreparesRoomWrongFalsely : Prop := fnCountPreparesRoomRow.holds Try.pinned (OpenSpec.ofChange fnCountPreparesRoomWrong)

/-- 'laws.FnCountPrepares': WHATEVER THE INPUT: true; the input reads as it did. -/
def fnCountPreparesSpec : ChangeSpec := { name := "fnCountPrepares", fn := fun _ => fun
  | [d] => { results := [.lit (.bool true)], args := [d] }
  | _ => none }
def fnCountPreparesRow : OpenClaim := { program := "ytmenknnncjbbpaa", sum := "95a248cccecd01bff19e12d558d5176b86936b26dd062ce5c637347008d76a5e", func := "loop.example/connectionpool/laws.FnCountPrepares", spec := "fnCountPrepares", unfollowed := true, recurses := true, apart := false }
def FnCountPreparesSaid : Prop := fnCountPreparesRow.holds Try.pinned (OpenSpec.ofChange fnCountPreparesSpec)

/-- ITS FALSE NEIGHBOUR: 'it returns false'. Refute it at one input. -/
def fnCountPreparesWrong : ChangeSpec := { name := "fnCountPrepares", fn := fun _ => fun
  | [d] => { results := [.lit (.bool false)], args := [d] }
  | _ => none }
def FnCountPreparesWrongFalsely : Prop := fnCountPreparesRow.holds Try.pinned (OpenSpec.ofChange fnCountPreparesWrong)

/-- 'laws.FnCountPreparesSame': WHATEVER THE INPUT: true; the input reads as it did. -/
def fnCountPreparesSameSpec : ChangeSpec := { name := "fnCountPreparesSame", fn := fun _ => fun
  | [d] => { results := [.lit (.bool true)], args := [d] }
  | _ => none }
def fnCountPreparesSameRow : OpenClaim := { program := "ytmenknnncjbbpaa", sum := "95a248cccecd01bff19e12d558d5176b86936b26dd062ce5c637347008d76a5e", func := "loop.example/connectionpool/laws.FnCountPreparesSame", spec := "fnCountPreparesSame", unfollowed := true, recurses := true, apart := false }
def FnCountPreparesSameSaid : Prop := fnCountPreparesSameRow.holds Try.pinned (OpenSpec.ofChange fnCountPreparesSameSpec)

/-- ITS FALSE NEIGHBOUR: 'it returns false'. Refute it at one input. -/
def fnCountPreparesSameWrong : ChangeSpec := { name := "fnCountPreparesSame", fn := fun _ => fun
  | [d] => { results := [.lit (.bool false)], args := [d] }
  | _ => none }
def FnCountPreparesSameWrongFalsely : Prop := fnCountPreparesSameRow.holds Try.pinned (OpenSpec.ofChange fnCountPreparesSameWrong)

/- THE SECOND FORM. 'bulk': how many values and letters a reading holds, each counted each time it is reached (what is shared counts as often as it is met; a slice's spare places count too). A statement '..UptoSaid' is the law's where the arguments, and the package variables that the reading takes, are together of bulk at most 1048576: NARROWER than '..Said'. Prove '..Said' where nothing that the law and all that it calls make is longer than what came in: it says more and counts as full. Else prove '..UptoSaid'. A law counts once. -/
mutual
def uptoBulk {H : Type} : DataW H → Nat
  | .lit (.string bytes) => bytes.length + 1
  | .lit _ => 1
  | .nil => 1
  | .ptr d => uptoBulk d + 1
  | .slice elems spare => uptoBulkAll elems + uptoBulkAll spare + 1
  | .agg parts => uptoBulkAll parts + 1
  | .iface _ d => uptoBulk d + 1
  | .map entries => uptoBulkEntries entries + 1
  | .held _ => 1
def uptoBulkAll {H : Type} : List (DataW H) → Nat
  | [] => 0
  | d :: r => uptoBulk d + uptoBulkAll r
def uptoBulkEntries {H : Type} : List (Lit × DataW H) → Nat
  | [] => 0
  | x :: r => uptoBulkEntry x + uptoBulkEntries r
def uptoBulkEntry {H : Type} : Lit × DataW H → Nat
  | (.string bytes, d) => bytes.length + uptoBulk d + 1
  | (_, d) => uptoBulk d + 1
 end
def uptoSmall : (H : Type) → List (DataW H) → Bool := fun _ ds => decide (uptoBulkAll ds ≤ 1048576)
def OpenSpec.upto (s : _root_.Go.ChangeSpec) : _root_.Go.OpenSpec := { _root_.Go.OpenSpec.ofChange s with cond := some uptoSmall }

/-- 'laws.FnBestCacheNone', WHERE WHAT IT READS IS OF BULK AT MOST 1048576: true; the input reads as it did. -/
def fnBestCacheNoneUptoRow : OpenClaim := { program := "ytmenknnncjbbpaa", sum := "95a248cccecd01bff19e12d558d5176b86936b26dd062ce5c637347008d76a5e", func := "loop.example/connectionpool/laws.FnBestCacheNone", spec := "fnBestCacheNone", apart := false, narrowed := true }
def FnBestCacheNoneUptoSaid : Prop := fnBestCacheNoneUptoRow.holds Try.pinned (OpenSpec.upto fnBestCacheNoneSpec)

/-- 'laws.FnBestCache', WHERE WHAT IT READS IS OF BULK AT MOST 1048576: true; the input reads as it did. -/
def fnBestCacheUptoRow : OpenClaim := { program := "ytmenknnncjbbpaa", sum := "95a248cccecd01bff19e12d558d5176b86936b26dd062ce5c637347008d76a5e", func := "loop.example/connectionpool/laws.FnBestCache", spec := "fnBestCache", apart := false, narrowed := true }
def FnBestCacheUptoSaid : Prop := fnBestCacheUptoRow.holds Try.pinned (OpenSpec.upto fnBestCacheSpec)

/-- 'laws.FnCountPreparesRoom', WHERE WHAT IT READS IS OF BULK AT MOST 1048576: true; the input reads as it did. -/
def fnCountPreparesRoomUptoRow : OpenClaim := { program := "ytmenknnncjbbpaa", sum := "95a248cccecd01bff19e12d558d5176b86936b26dd062ce5c637347008d76a5e", func := "loop.example/connectionpool/laws.FnCountPreparesRoom", spec := "fnCountPreparesRoom", unfollowed := true, recurses := true, apart := false, narrowed := true }
def FnCountPreparesRoomUptoSaid : Prop := fnCountPreparesRoomUptoRow.holds Try.pinned (OpenSpec.upto fnCountPreparesRoomSpec)

/-- 'laws.FnCountPrepares', WHERE WHAT IT READS IS OF BULK AT MOST 1048576: true; the input reads as it did. -/
def fnCountPreparesUptoRow : OpenClaim := { program := "ytmenknnncjbbpaa", sum := "95a248cccecd01bff19e12d558d5176b86936b26dd062ce5c637347008d76a5e", func := "loop.example/connectionpool/laws.FnCountPrepares", spec := "fnCountPrepares", unfollowed := true, recurses := true, apart := false, narrowed := true }
def FnCountPreparesUptoSaid : Prop := fnCountPreparesUptoRow.holds Try.pinned (OpenSpec.upto fnCountPreparesSpec)

/-- 'laws.FnCountPreparesSame', WHERE WHAT IT READS IS OF BULK AT MOST 1048576: true; the input reads as it did. -/
def fnCountPreparesSameUptoRow : OpenClaim := { program := "ytmenknnncjbbpaa", sum := "95a248cccecd01bff19e12d558d5176b86936b26dd062ce5c637347008d76a5e", func := "loop.example/connectionpool/laws.FnCountPreparesSame", spec := "fnCountPreparesSame", unfollowed := true, recurses := true, apart := false, narrowed := true }
def FnCountPreparesSameUptoSaid : Prop := fnCountPreparesSameUptoRow.holds Try.pinned (OpenSpec.upto fnCountPreparesSameSpec)

end Rows
end Go.Proofs.Ytmenknnncjbbpaa
