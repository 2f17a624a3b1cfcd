/- What GiveAll gives, counted. In plain Lean: no program in sight. -/
import Derived.Test.YtjgijfmnplcdkaaPGa
import Derived.Test.YtjgijfmnplcdkaaPSl
namespace Go.Proofs.Ytjgijfmnplcdkaa
theorem count_erase {xs : List Int} {j : Nat} (h : j < xs.length) (o : Int) : xs.count o = (xs.eraseIdx j).count o + (if at0 xs j = o then 1 else 0) := by
  induction xs generalizing j with
  | nil => simp at h
  | cons a r ih =>
    cases j with
    | zero => simp [List.count_cons, at0]
    | succ j =>
      have := ih (j := j) (by simpa using h)
      have e : at0 (a :: r) (j + 1) = at0 r j := by simp [at0]
      rw [e, List.eraseIdx_cons_succ, List.count_cons, List.count_cons, this]
      omega
theorem GA_count (t : Int) (xs : List Int) (o : Int) : ∀ (n : Nat) (ys left : List Int), (GA t xs n ys left).count o ≤ left.count o
  | 0, _, _ => by simp [GA]
  | n + 1, ys, left => by
    rcases NX_cases t xs ys left with h | ⟨j, G⟩
    · rw [GA_stop (by omega)]; simp
    · rw [GA_step G.nx, List.count_cons, count_erase G.lt o]
      have := GA_count t xs o n (chg ys (at0 left j).toNat 1) (left.eraseIdx j)
      simp only [beq_iff_eq]
      omega
theorem GA_sum {t : Int} {xs : List Int} : ∀ (n : Nat) (ys left : List Int), VSh t xs ys = true → allL left 0 4 = true → ((GA t xs n ys left).length : Int) + ys.sum ≤ t
  | 0, ys, _, hv, _ => by have := (valid_iff.1 hv).sm; simp [GA]; omega
  | n + 1, ys, left, hv, hq => by
    rcases NX_cases t xs ys left with h | ⟨j, G⟩
    · have := (valid_iff.1 hv).sm
      rw [GA_stop (by omega)]; simp; omega
    · obtain ⟨hv2, hAD⟩ := G.give hv hq
      have hs := (AD_give_back hAD).2.2.2
      have := GA_sum n _ _ hv2 (allL_erase hq j)
      rw [GA_step G.nx, List.length_cons]
      omega
theorem GALL_count (t : Int) (xs ys asks : List Int) (o : Int) : (GALL t xs ys asks).count o ≤ asks.count o := by
  unfold GALL
  split
  · exact GA_count _ _ _ _ _ _
  · simp
theorem GALL_sum {t : Int} {xs ys : List Int} (asks : List Int) (hv : VSh t xs ys = true) : ((GALL t xs ys asks).length : Int) + ys.sum ≤ t := by
  unfold GALL
  split
  · rename_i h
    refine GA_sum _ _ _ hv ?_
    unfold askB at h
    simp only [Bool.and_eq_true] at h
    exact h.2.2
  · have := (valid_iff.1 hv).sm; simp; omega
theorem count_take {xs : List Int} {j : Nat} (h : j < xs.length) (o : Int) : (xs.take (j + 1)).count o = (xs.take j).count o + (if at0 xs j = o then 1 else 0) := by
  rw [List.take_succ_eq_append_getElem h, List.count_append, at0_of h, List.count_singleton]
  simp only [beq_iff_eq]
end Go.Proofs.Ytjgijfmnplcdkaa
