/- Settings in plain Lean: no program in sight. -/
import Derived.Test.YtabemhjbpnnlpaaMem
namespace Go.Proofs.Ytabemhjbpnnlpaa

/-- Valid settings behind a name 'last'. -/
def vset : Int → List St → Bool
  | _, [] => true
  | last, s :: r => decide (last + 1 ≤ s.1 ∧ s.1 ≤ 9) && decide (0 ≤ s.2 ∧ s.2 ≤ 20) && vset s.1 r
/-- Settings are valid. -/
def VS (xs : List St) : Bool := vset (-1) xs
theorem vset_drop (l : Int) (xs : List St) (k : Nat) (h : k < xs.length) :
    vset l (xs.drop k) = (decide (l + 1 ≤ xs[k].1 ∧ xs[k].1 ≤ 9) && decide (0 ≤ xs[k].2 ∧ xs[k].2 ≤ 20) && vset xs[k].1 (xs.drop (k + 1))) := by
  rw [List.drop_eq_getElem_cons h]; rfl
theorem vset_done (l : Int) (xs : List St) : vset l (xs.drop xs.length) = true := by simp [vset]
theorem vset_low {xs : List St} {q q' : Int} (h : vset q' xs = true) (hq : q ≤ q') : vset q xs = true := by
  cases xs with
  | nil => rfl
  | cons s r =>
    simp only [vset, Bool.and_eq_true, decide_eq_true_eq] at h ⊢
    exact ⟨⟨⟨by omega, h.1.1.2⟩, h.1.2⟩, h.2⟩
theorem vset_without {xs : List St} {q : Int} (h : vset q xs = true) (k : Nat) : vset q (xs.take k ++ xs.drop (k + 1)) = true := by
  induction xs generalizing q k with
  | nil => simp [vset]
  | cons s r ih =>
    simp only [vset, Bool.and_eq_true, decide_eq_true_eq] at h
    cases k with
    | zero => simpa using vset_low h.2 (by omega)
    | succ k =>
      simp only [List.take_succ_cons, List.cons_append, List.drop_succ_cons, vset, Bool.and_eq_true, decide_eq_true_eq]
      exact ⟨h.1, ih h.2 k⟩
theorem vset_len {xs : List St} {q : Int} (h : vset q xs = true) (hq : q ≤ 9) : (xs.length : Int) + q ≤ 9 := by
  induction xs generalizing q with
  | nil => simpa using hq
  | cons s r ih =>
    simp only [vset, Bool.and_eq_true, decide_eq_true_eq] at h
    have := ih h.2 h.1.1.2
    simp only [List.length_cons]
    omega
theorem VS_len {xs : List St} (h : VS xs = true) : xs.length ≤ 10 := by have := vset_len h (by omega); omega
end Go.Proofs.Ytabemhjbpnnlpaa
