/- Hosts in plain Lean: no program in sight. -/
import Derived.Test.YtbpadfeplmmeeaaMh
import Derived.Test.YtbpadfeplmmeeaaW1
namespace Go.Proofs.Ytbpadfeplmmeeaa
/-- A host's numbers are in their ranges. -/
def okH (h : Ho) : Bool := inB h.1 0 100 && inB h.2.1 0 1000
/-- The host 0 is not behind. -/
def lag0 : List Ho → Bool
  | [] => true
  | h :: _ => h.2.1 == 0
/-- Hosts are valid. -/
def VH (xs : List Ho) : Bool := inB xs.length 1 5 && (lag0 xs && xs.all okH)
theorem okH_drop (xs : List Ho) (k : Nat) (h : k < xs.length) : (xs.drop k).all okH = (okH xs[k] && (xs.drop (k + 1)).all okH) := by
  rw [List.drop_eq_getElem_cons h]; rfl
theorem okH_yes {xs : List Ho} {k : Nat} (h : k < xs.length) (h1 : okH xs[k] = true) : (xs.drop k).all okH = (xs.drop (k + 1)).all okH := by rw [okH_drop xs k h, h1]; rfl
theorem okH_no {xs : List Ho} {k : Nat} (h : k < xs.length) (h1 : okH xs[k] = false) : (xs.drop k).all okH = false := by rw [okH_drop xs k h, h1]; rfl
theorem okH_done (xs : List Ho) : (xs.drop xs.length).all okH = true := by simp
theorem lag0_at {xs : List Ho} (h : 0 < xs.length) : lag0 xs = (xs[0].2.1 == 0) := by
  cases xs with
  | nil => simp at h
  | cons x r => rfl
theorem VH_len {xs : List Ho} (h : VH xs = true) : 1 ≤ xs.length ∧ xs.length ≤ 5 := by
  simp only [VH, Bool.and_eq_true] at h
  have := inB_iff.1 h.1
  omega
theorem VH_ok {xs : List Ho} (h : VH xs = true) : xs.all okH = true := by
  simp only [VH, Bool.and_eq_true] at h
  exact h.2.2
theorem VH_lag {xs : List Ho} (h : VH xs = true) : lag0 xs = true := by
  simp only [VH, Bool.and_eq_true] at h
  exact h.2.1
theorem VH_take {xs : List Ho} (h : VH xs = true) (m : Nat) (h1 : 1 ≤ m) : VH (xs.take m) = true := by
  have hl := VH_len h
  have ho := VH_ok h
  have h0 := VH_lag h
  have hlen : (xs.take m).length = min m xs.length := List.length_take
  have a : inB (((xs.take m).length : Nat) : Int) 1 5 = true := inB_true (by rw [hlen]; omega) (by rw [hlen]; omega)
  have b : lag0 (xs.take m) = true := by
    cases xs with
    | nil => rw [List.take_nil]; rfl
    | cons x r =>
      cases m with
      | zero => omega
      | succ m => exact h0
  have c : (xs.take m).all okH = true := by
    rw [List.all_eq_true] at ho ⊢
    exact fun x hx => ho x (List.mem_of_mem_take hx)
  simp only [VH, a, b, c, Bool.and_self]
end Go.Proofs.Ytbpadfeplmmeeaa
