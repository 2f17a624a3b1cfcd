/- What the laws on BestCache lean on, in plain Lean. -/
import Derived.Test.YtmenknnncjbbpaaPBc
namespace Go.Proofs.Ytmenknnncjbbpaa
theorem bstL_valid (ns : List Int) : ∀ (cs : List (Int × List Int)) (i : Nat) (b m : Int), bstL ns cs i b m ≠ -1 → ∀ c ∈ cs, VCa c.1 c.2 = true
  | [], _, _, _, _ => by simp
  | c :: cs, i, b, m, h => by
    cases hv : VCa c.1 c.2 with
    | false => exact absurd (show bstL ns (c :: cs) i b m = -1 from if_neg (by rw [hv]; decide)) h
    | true =>
      have e : bstL ns (c :: cs) i b m = if m < held c.2 ns then bstL ns cs (i + 1) i (held c.2 ns) else bstL ns cs (i + 1) b m := if_pos hv
      rw [e] at h
      intro x hx
      rcases List.mem_cons.1 hx with rfl | hx
      · exact hv
      · split at h
        · exact bstL_valid ns cs _ _ _ h x hx
        · exact bstL_valid ns cs _ _ _ h x hx
theorem BST_get {cs : List (Int × List Int)} {ns : List Int} (h : 0 ≤ BST cs ns) : cs.length ≤ 6 ∧ ns.length ≤ 16 ∧ difB ns = true ∧ (∀ c ∈ cs, VCa c.1 c.2 = true) ∧ cs ≠ [] := by
  unfold BST at h
  split at h
  · rename_i h'
    refine ⟨h'.1, h'.2.1, h'.2.2, bstL_valid ns cs 0 (-1) (-1) (by omega), fun e => ?_⟩
    subst e
    simp [bstL] at h
  · omega
theorem held_nil (xs : List Int) : held xs [] = 0 := rfl
theorem bstL_nil : ∀ (cs : List (Int × List Int)) (i : Nat) (b : Int), (∀ c ∈ cs, VCa c.1 c.2 = true) → bstL [] cs i b 0 = b
  | [], _, _, _ => rfl
  | c :: cs, i, b, h => by
    have e : bstL [] (c :: cs) i b 0 = if (0 : Int) < held c.2 [] then bstL [] cs (i + 1) i (held c.2 []) else bstL [] cs (i + 1) b 0 := if_pos (h c (by simp))
    rw [e, held_nil, if_neg (by omega)]
    exact bstL_nil cs _ _ fun x hx => h x (by simp [hx])
theorem BST_nil {cs : List (Int × List Int)} {ns : List Int} (h : 0 ≤ BST cs ns) : BST cs [] = 0 := by
  obtain ⟨h1, -, -, h4, h5⟩ := BST_get h
  rw [BST_ok h1 (by simp) (by decide)]
  cases cs with
  | nil => exact absurd rfl h5
  | cons c cs =>
    have e : bstL [] (c :: cs) 0 (-1) (-1) = if (-1 : Int) < held c.2 [] then bstL [] cs 1 (0 : Nat) (held c.2 []) else bstL [] cs 1 (-1) (-1) := if_pos (h4 c (by simp))
    rw [e, held_nil, if_pos (by omega), bstL_nil cs 1 _ fun x hx => h4 x (by simp [hx])]
    rfl
theorem BST_one {cs : List (Int × List Int)} {ns : List Int} (h : 0 ≤ BST cs ns) : BST (cs.take 1) ns = 0 := by
  obtain ⟨h1, h2, h3, h4, h5⟩ := BST_get h
  rw [BST_ok (by rw [List.length_take]; omega) h2 h3]
  cases cs with
  | nil => exact absurd rfl h5
  | cons c cs =>
    have hh := (held_nonneg c.2 ns).1
    have e : bstL ns [c] 0 (-1) (-1) = if (-1 : Int) < held c.2 ns then bstL ns [] 1 (0 : Nat) (held c.2 ns) else bstL ns [] 1 (-1) (-1) := if_pos (h4 c (by simp))
    show bstL ns [c] 0 (-1) (-1) = 0
    rw [e, if_pos (by omega)]
    rfl
end Go.Proofs.Ytmenknnncjbbpaa
