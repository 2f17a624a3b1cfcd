/- BestCache in plain Lean: no program in sight. -/
import Derived.Test.YtjhhacmfhancpaaPCa
namespace Go.Proofs.Ytjhhacmfhancpaa
/-- How many of the names are held. -/
def held (xs ns : List Int) : Int := (ns.countP fun n => hasB xs n : Nat)
theorem held_nonneg (xs ns : List Int) : 0 ≤ held xs ns ∧ held xs ns ≤ ns.length := by
  have := List.countP_le_length (p := fun n => hasB xs n) (l := ns)
  unfold held
  omega
/-- The scan from place i on: the best place and its count so far. -/
def bstL (ns : List Int) : List (Int × List Int) → Nat → Int → Int → Int
  | [], _, b, _ => b
  | c :: cs, i, b, m => if VCa c.1 c.2 = true then (if m < held c.2 ns then bstL ns cs (i + 1) i (held c.2 ns) else bstL ns cs (i + 1) b m) else -1
/-- BestCache. -/
def BST (cs : List (Int × List Int)) (ns : List Int) : Int := if cs.length ≤ 6 ∧ ns.length ≤ 16 ∧ difB ns = true then bstL ns cs 0 (-1) (-1) else -1
theorem BST_no1 {cs : List (Int × List Int)} {ns : List Int} (h : ¬ cs.length ≤ 6) : BST cs ns = -1 := if_neg fun h' => h h'.1
theorem BST_no2 {cs : List (Int × List Int)} {ns : List Int} (h : ¬ ns.length ≤ 16) : BST cs ns = -1 := if_neg fun h' => h h'.2.1
theorem BST_no3 {cs : List (Int × List Int)} {ns : List Int} (h : difB ns = false) : BST cs ns = -1 := if_neg fun h' => by rw [h] at h'; cases h'.2.2
theorem BST_ok {cs : List (Int × List Int)} {ns : List Int} (h1 : cs.length ≤ 6) (h2 : ns.length ≤ 16) (h3 : difB ns = true) : BST cs ns = bstL ns cs 0 (-1) (-1) := if_pos ⟨h1, h2, h3⟩
theorem bstL_bad {cs : List (Int × List Int)} {ns : List Int} {k : Nat} (h : k < cs.length) (hv : VCa cs[k].1 cs[k].2 = false) (i : Nat) (b m : Int) : bstL ns (cs.drop k) i b m = -1 := by
  rw [List.drop_eq_getElem_cons h]; exact if_neg (by rw [hv]; decide)
theorem bstL_more {cs : List (Int × List Int)} {ns : List Int} {k : Nat} (h : k < cs.length) (hv : VCa cs[k].1 cs[k].2 = true) (i : Nat) (b m : Int) (hm : m < held cs[k].2 ns) : bstL ns (cs.drop k) i b m = bstL ns (cs.drop (k + 1)) (i + 1) i (held cs[k].2 ns) := by
  rw [List.drop_eq_getElem_cons h]; exact (if_pos hv).trans (if_pos hm)
theorem bstL_less {cs : List (Int × List Int)} {ns : List Int} {k : Nat} (h : k < cs.length) (hv : VCa cs[k].1 cs[k].2 = true) (i : Nat) (b m : Int) (hm : ¬ m < held cs[k].2 ns) : bstL ns (cs.drop k) i b m = bstL ns (cs.drop (k + 1)) (i + 1) b m := by
  rw [List.drop_eq_getElem_cons h]; exact (if_pos hv).trans (if_neg hm)
theorem bstL_done (ns : List Int) (cs : List (Int × List Int)) (i : Nat) (b m : Int) : bstL ns (cs.drop cs.length) i b m = b := by simp [bstL]
theorem held_take {xs ns : List Int} {k : Nat} (h : k < ns.length) : held xs (ns.take (k + 1)) = held xs (ns.take k) + (if hasB xs ns[k] = true then 1 else 0) := by
  unfold held
  rw [List.take_succ_eq_append_getElem h, List.countP_append, List.countP_singleton]
  split <;> simp
end Go.Proofs.Ytjhhacmfhancpaa
