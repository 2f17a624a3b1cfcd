/- The best cache is the first that holds the most, in plain Lean. -/
import Derived.Test.YtmenknnncjbbpaaPBn
namespace Go.Proofs.Ytmenknnncjbbpaa
/-- How much the cache at a place holds. -/
def hAt (cs : List (Int × List Int)) (ns : List Int) (i : Nat) : Int := if h : i < cs.length then held (cs[i]).2 ns else 0
theorem hAt_of {cs : List (Int × List Int)} {ns : List Int} {i : Nat} (h : i < cs.length) : hAt cs ns i = held (cs[i]).2 ns := dif_pos h
/-- Where the scan stands. -/
def Scan (cs : List (Int × List Int)) (ns : List Int) (k : Nat) (b q : Int) : Prop :=
  (k = 0 ∧ b = -1 ∧ q = -1) ∨ ∃ j : Nat, j < k ∧ b = (j : Int) ∧ q = hAt cs ns j ∧ (∀ i, i < j → hAt cs ns i < q) ∧ ∀ i, i < k → hAt cs ns i ≤ q
theorem scan_end {cs : List (Int × List Int)} {ns : List Int} (hv : ∀ c ∈ cs, VCa c.1 c.2 = true) : ∀ (n k : Nat) (b q : Int), cs.length - k = n → k ≤ cs.length → Scan cs ns k b q → ∃ q', Scan cs ns cs.length (bstL ns (cs.drop k) k b q) q'
  | 0, k, b, q, hn, hk, h => by
    obtain rfl : k = cs.length := by omega
    rw [bstL_done]; exact ⟨q, h⟩
  | n + 1, k, b, q, hn, hk, h => by
    have hlt : k < cs.length := by omega
    have hvk := hv _ (List.getElem_mem hlt)
    have hh := (held_nonneg (cs[k]).2 ns).1
    have ek := hAt_of (ns := ns) hlt
    by_cases hm : q < held (cs[k]).2 ns
    · rw [bstL_more hlt hvk k b q hm]
      refine scan_end hv n (k + 1) _ _ (by omega) (by omega) (.inr ⟨k, by omega, rfl, ek.symm, fun i hi => ?_, fun i hi => ?_⟩)
      · rcases h with ⟨rfl, -, -⟩ | ⟨j, hj, -, -, -, h5⟩
        · omega
        · have := h5 i hi; omega
      · by_cases e : i = k
        · subst e; omega
        · rcases h with ⟨rfl, -, -⟩ | ⟨j, hj, -, -, -, h5⟩
          · omega
          · have := h5 i (by omega); omega
    · rw [bstL_less hlt hvk k b q hm]
      refine scan_end hv n (k + 1) _ _ (by omega) (by omega) ?_
      rcases h with ⟨rfl, -, rfl⟩ | ⟨j, hj, h2, h3, h4, h5⟩
      · omega
      · refine .inr ⟨j, by omega, h2, h3, h4, fun i hi => ?_⟩
        by_cases e : i = k
        · subst e; omega
        · exact h5 i (by omega)
theorem BST_at {cs : List (Int × List Int)} {ns : List Int} {n : Nat} (h : BST cs ns = (n : Int)) : n < cs.length ∧ (∀ i, i < n → hAt cs ns i < hAt cs ns n) ∧ ∀ i, i < cs.length → hAt cs ns i ≤ hAt cs ns n := by
  obtain ⟨h1, h2, h3, h4, h5⟩ := BST_get (cs := cs) (ns := ns) (by omega)
  rw [BST_ok h1 h2 h3] at h
  obtain ⟨q', hs⟩ := scan_end (ns := ns) h4 cs.length 0 (-1) (-1) (by omega) (by omega) (.inl ⟨rfl, rfl, rfl⟩)
  rw [show cs.drop 0 = cs from rfl, h] at hs
  rcases hs with ⟨-, e, -⟩ | ⟨j, hj, e, eq, h6, h7⟩
  · omega
  · obtain rfl : n = j := by omega
    subst eq
    exact ⟨hj, h6, h7⟩
end Go.Proofs.Ytmenknnncjbbpaa
