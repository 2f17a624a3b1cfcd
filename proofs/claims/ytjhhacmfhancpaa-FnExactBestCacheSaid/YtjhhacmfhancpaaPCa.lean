/- Caches in plain Lean: no program in sight. -/
import Derived.Test.YtjhhacmfhancpaaPSh
namespace Go.Proofs.Ytjhhacmfhancpaa
/-- The first k numbers of a list are different. -/
def NdU (xs : List Int) (k : Nat) : Prop := ∀ i, i < k → ∀ j, j < i → at0 xs j ≠ at0 xs i
theorem ndU_nodup {xs : List Int} : NdU xs xs.length ↔ xs.Nodup := by
  unfold NdU List.Nodup
  rw [List.pairwise_iff_getElem]
  constructor
  · intro h i j hi hj hij
    have := h j hj i hij
    rwa [at0_of hi, at0_of hj] at this
  · intro h i hi j hj
    rw [at0_of (by omega), at0_of hi]
    exact h j i (by omega) hi hj
def ndB (xs : List Int) : Bool := decide xs.Nodup
theorem ndB_yes {xs : List Int} (h : NdU xs xs.length) : ndB xs = true := decide_eq_true (ndU_nodup.1 h)
theorem ndB_no {xs : List Int} {i j : Nat} (hi : i < xs.length) (hj : j < i) (h : at0 xs j = at0 xs i) : ndB xs = false := decide_eq_false fun h' => ndU_nodup.2 h' i hi j hj h
theorem ndU_next {xs : List Int} {k : Nat} (h : NdU xs k) (h2 : ∀ j, j < k → at0 xs j ≠ at0 xs k) : NdU xs (k + 1) := fun i hi j hj => by
  by_cases e : i = k
  · subst e; exact h2 j hj
  · exact h i (by omega) j hj
/-- Names are different, in range. -/
def difB (xs : List Int) : Bool := allL xs 0 9 && ndB xs
/-- A cache is valid. -/
def VCa (r : Int) (xs : List Int) : Bool := inB r 0 6 && (decide ((xs.length : Int) ≤ r) && difB xs)
structure ValidC (r : Int) (xs : List Int) : Prop where
  r0 : 0 ≤ r
  r1 : r ≤ 6
  len : (xs.length : Int) ≤ r
  rng : allL xs 0 9 = true
  nd : xs.Nodup
theorem validC_iff {r : Int} {xs : List Int} : VCa r xs = true ↔ ValidC r xs := by
  constructor
  · intro h
    simp only [VCa, difB, ndB, Bool.and_eq_true, decide_eq_true_eq] at h
    obtain ⟨h1, h2, h3, h4⟩ := h
    have h1 := inB_iff.1 h1
    exact ⟨h1.1, h1.2, h2, h3, h4⟩
  · intro h
    simp only [VCa, difB, ndB, Bool.and_eq_true, decide_eq_true_eq]
    exact ⟨inB_true h.r0 h.r1, h.len, h.rng, h.nd⟩
/-- A list without a number. -/
def lv (xs : List Int) (v : Int) : List Int := xs.filter fun x => !(x == v)
/-- A list has a number. -/
def hasB (xs : List Int) (v : Int) : Bool := decide (v ∈ xs)
theorem hasB_iff {xs : List Int} {v : Int} : hasB xs v = true ↔ v ∈ xs := by simp [hasB]
theorem hasB_no {xs : List Int} {v : Int} : hasB xs v = false ↔ v ∉ xs := by simp [hasB]
theorem lv_len (xs : List Int) (v : Int) : (lv xs v).length ≤ xs.length := List.length_filter_le _ _
theorem lv_no {xs : List Int} {v : Int} (h : v ∉ xs) : lv xs v = xs := by
  unfold lv
  rw [List.filter_eq_self]
  intro x hx
  simp only [Bool.not_eq_true', beq_eq_false_iff_ne]
  exact fun e => h (e ▸ hx)
theorem mem_lv {xs : List Int} {v x : Int} : x ∈ lv xs v ↔ x ∈ xs ∧ x ≠ v := by simp [lv]
theorem lv_lt {xs : List Int} {v : Int} : (lv xs v).length < xs.length ↔ v ∈ xs := by
  constructor
  · intro h
    by_cases hv : v ∈ xs
    · exact hv
    · rw [lv_no hv] at h; omega
  · intro h
    have : (lv xs v).length ≠ xs.length := fun e => by
      have := List.length_filter_eq_length_iff.1 e v h
      simp at this
    have := lv_len xs v
    omega
theorem lv_nodup {xs : List Int} (h : xs.Nodup) (v : Int) : (lv xs v).Nodup := h.filter _
theorem lv_app (xs ys : List Int) (v : Int) : lv (xs ++ ys) v = lv xs v ++ lv ys v := List.filter_append ..
theorem lv_take {xs : List Int} {k : Nat} (h : k < xs.length) (v : Int) : lv (xs.take (k + 1)) v = if xs[k] = v then lv (xs.take k) v else lv (xs.take k) v ++ [xs[k]] := by
  rw [List.take_succ_eq_append_getElem h, lv_app]
  split
  · rename_i e; simp [lv, e]
  · rename_i e; simp [lv, e]
/-- Of different numbers, one struck by its place. -/
theorem lv_erase {xs : List Int} (h : xs.Nodup) {i : Nat} (hi : i < xs.length) : xs.eraseIdx i = lv xs xs[i] := by
  induction xs generalizing i with
  | nil => simp at hi
  | cons x r ih =>
    have hx := (List.nodup_cons.1 h).1
    have hr := (List.nodup_cons.1 h).2
    cases i with
    | zero =>
      have := lv_no hx
      simp only [List.eraseIdx_zero, List.getElem_cons_zero, List.tail_cons]
      unfold lv at this ⊢
      simp only [List.filter_cons, beq_self_eq_true, Bool.not_true]
      exact this.symm
    | succ i =>
      have hi' : i < r.length := by simpa using hi
      have hm : r[i] ∈ r := List.getElem_mem hi'
      have hne : x ≠ r[i] := fun e => hx (e ▸ hm)
      have e := ih hr hi'
      simp only [List.eraseIdx_cons_succ, List.getElem_cons_succ]
      unfold lv at e ⊢
      rw [e]
      simp [hne]
/-- The place of a number, or -1. -/
def ixB (xs : List Int) (v : Int) : Int := if v ∈ xs then ((xs.idxOf v : Nat) : Int) else -1
theorem ixB_some {xs : List Int} {i : Nat} (h : i < xs.length) (hf : ∀ j, j < i → at0 xs j ≠ xs[i]) : ixB xs xs[i] = (i : Int) := by
  unfold ixB
  rw [if_pos (List.getElem_mem h)]
  congr 1
  have hlt : xs.idxOf xs[i] < xs.length := List.idxOf_lt_length_of_mem (List.getElem_mem h)
  have he : xs[xs.idxOf xs[i]] = xs[i] := List.getElem_idxOf hlt
  rcases Nat.lt_trichotomy (xs.idxOf xs[i]) i with h1 | h1 | h1
  · exact absurd (by rw [at0_of hlt]; exact he) (hf _ h1)
  · exact h1
  · exfalso
    have := List.not_of_lt_findIdx (p := (· == xs[i])) (xs := xs) (i := i) h1
    simp at this
theorem ixB_none {xs : List Int} {v : Int} (h : v ∉ xs) : ixB xs v = -1 := if_neg h
theorem ixB_at {xs : List Int} {v : Int} (h : v ∈ xs) : ∃ i, ∃ hi : i < xs.length, ixB xs v = (i : Int) ∧ xs[i] = v := by
  have hlt : xs.idxOf v < xs.length := List.idxOf_lt_length_of_mem h
  exact ⟨_, hlt, if_pos h, List.getElem_idxOf hlt⟩
/-- Names after a statement was used. -/
def US (r : Int) (xs : List Int) (v : Int) : List Int := (lv xs v ++ [v]).drop ((lv xs v).length + 1 - r.toNat)
/-- Statements that are not there when they are used. -/
def CPn (r : Int) : List Int → List Int → Int
  | _, [] => 0
  | xs, n :: ns => (if hasB xs n = true then 0 else 1) + CPn r (US r xs n) ns
/-- CountPrepares. -/
def CP (r : Int) (xs names : List Int) : Int := if VCa r xs = true ∧ names.length ≤ 16 ∧ allL names 0 9 = true then CPn r xs names else -1
theorem CP_no1 {r : Int} {xs names : List Int} (h : VCa r xs = false) : CP r xs names = -1 := if_neg fun h' => by rw [h] at h'; cases h'.1
theorem CP_no2 {r : Int} {xs names : List Int} (h : ¬ names.length ≤ 16) : CP r xs names = -1 := if_neg fun h' => h h'.2.1
theorem CP_no3 {r : Int} {xs names : List Int} (h : allL names 0 9 = false) : CP r xs names = -1 := if_neg fun h' => by rw [h] at h'; cases h'.2.2
theorem CP_ok {r : Int} {xs names : List Int} (h : VCa r xs = true) (h2 : names.length ≤ 16) (h3 : allL names 0 9 = true) : CP r xs names = CPn r xs names := if_pos ⟨h, h2, h3⟩
/-- UseStatement. -/
def USE (r : Int) (xs : List Int) (v : Int) : Option (List Int × Bool) := if VCa r xs = true ∧ inB v 0 9 = true then some (US r xs v, hasB xs v) else none
/-- DropStatement. -/
def DRP (r : Int) (xs : List Int) (v : Int) : Option (List Int) := if VCa r xs = true ∧ hasB xs v = true then some (lv xs v) else none
theorem US_len {r : Int} {xs : List Int} (h : ValidC r xs) (v : Int) : (US r xs v).length ≤ 6 := by
  have h0 := h.r0; have h1 := h.r1; have h2 := h.len
  have := lv_len xs v
  unfold US
  rw [List.length_drop, List.length_append, List.length_singleton]
  omega
theorem US_valid {r : Int} {xs : List Int} (h : ValidC r xs) {v : Int} (hv : inB v 0 9 = true) : ValidC r (US r xs v) := by
  have h0 := h.r0; have h2 := h.len
  have hl := lv_len xs v
  refine ⟨h.r0, h.r1, ?_, ?_, ?_⟩
  · unfold US
    rw [List.length_drop, List.length_append, List.length_singleton]
    omega
  · have hr := h.rng
    unfold allL at hr ⊢
    rw [List.all_eq_true] at hr ⊢
    intro x hx
    have hx := List.mem_of_mem_drop hx
    rcases List.mem_append.1 hx with hx | hx
    · exact hr x (mem_lv.1 hx).1
    · rw [List.mem_singleton.1 hx]; exact hv
  · refine List.Sublist.nodup (List.drop_sublist _ _) ?_
    rw [List.nodup_append]
    refine ⟨lv_nodup h.nd v, by simp, ?_⟩
    intro a ha b hb e
    rw [List.mem_singleton.1 hb] at e
    exact (mem_lv.1 ha).2 e
end Go.Proofs.Ytjhhacmfhancpaa
