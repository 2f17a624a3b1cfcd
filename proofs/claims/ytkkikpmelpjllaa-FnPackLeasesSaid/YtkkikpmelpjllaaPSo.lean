/- The order of places in plain Lean: insertion, step by step. -/
import Derived.Test.YtkkikpmelpjllaaPLe
namespace Go.Proofs.Ytkkikpmelpjllaa
abbrev L4 := List (Int × Int × Int × Int)
def cmI (a b : Int) : Int := if a < b then -1 else if b < a then 1 else 0
theorem cmI_lt {a b : Int} (h : a < b) : cmI a b = -1 := if_pos h
theorem cmI_ge {a b : Int} (h : ¬ a < b) : ¬ cmI a b < 0 := by
  unfold cmI
  rw [if_neg h]
  split <;> omega
/-- The first i places are in order, the others untouched. -/
def OuS (xs : L4) (i : Nat) (os : List Nat) : Prop := ∃ P, os = P ++ List.range' i (xs.length - i) ∧ P.Perm (List.range i) ∧ P.Pairwise (bef xs)
/-- Place i is being brought forward, and stands at j. -/
def InS (xs : L4) (i j : Nat) (os : List Nat) : Prop := ∃ A B, A.length = j ∧ os = A ++ i :: (B ++ List.range' (i + 1) (xs.length - (i + 1))) ∧ (A ++ B).Perm (List.range i) ∧ (A ++ B).Pairwise (bef xs) ∧ ∀ b ∈ B, (gt xs i).2.2.1 < (gt xs b).2.2.1
section
variable {xs : L4} {i j x : Nat} {os : List Nat}
theorem ouS_start (h : 0 < xs.length) : OuS xs 1 (List.range xs.length) := by
  refine ⟨[0], ?_, by simp, by simp⟩
  rw [List.range_eq_range', show xs.length = (xs.length - 1) + 1 from by omega, List.range'_succ]
  rfl
theorem ouS_len (h : OuS xs i os) (hi : i ≤ xs.length) : os.length = xs.length := by
  obtain ⟨P, rfl, hp, _⟩ := h
  have := hp.length_eq
  rw [List.length_range] at this
  rw [List.length_append, List.length_range', this]
  omega
theorem ouS_end (h : OuS xs xs.length os) : Ord xs os := by
  obtain ⟨P, rfl, hp, hs⟩ := h
  rw [Nat.sub_self, List.range'_zero, List.append_nil]
  exact ⟨hp, hs⟩
theorem inS_start (h : OuS xs i os) (hi : i < xs.length) : InS xs i i os := by
  obtain ⟨P, rfl, hp, hs⟩ := h
  have hl := hp.length_eq
  rw [List.length_range] at hl
  refine ⟨P, [], hl, ?_, by simpa using hp, by simpa using hs, by simp⟩
  rw [show xs.length - i = (xs.length - (i + 1)) + 1 from by omega, List.range'_succ]
  rfl
theorem inS_le (h : InS xs i j os) : j ≤ i := by
  obtain ⟨A, B, rfl, _, hp, _⟩ := h
  have := hp.length_eq
  rw [List.length_range, List.length_append] at this
  omega
theorem inS_len (h : InS xs i j os) (hi : i < xs.length) : os.length = xs.length := by
  obtain ⟨A, B, rfl, rfl, hp, _⟩ := h
  have := hp.length_eq
  rw [List.length_range, List.length_append] at this
  simp only [List.length_append, List.length_cons, List.length_range']
  omega
theorem inS_at (h : InS xs i j os) : os[j]? = some i := by
  obtain ⟨A, B, rfl, rfl, _⟩ := h
  simp
theorem split_last {A : List Nat} (h : A.length = j + 1) : ∃ A' y, A = A' ++ [y] ∧ A'.length = j := by
  refine ⟨A.dropLast, A.getLast (by intro e; subst e; simp at h), (List.dropLast_concat_getLast _).symm, by simp [h]⟩
theorem inS_pred (h : InS xs i (j + 1) os) : ∃ x, os[j]? = some x ∧ x < i := by
  obtain ⟨A, B, hA, rfl, hp, _⟩ := h
  obtain ⟨A', y, rfl, hl⟩ := split_last hA
  refine ⟨y, by subst hl; simp, ?_⟩
  exact List.mem_range.1 (hp.mem_iff.1 (by simp))
theorem inS_swap (h : InS xs i (j + 1) os) (hx : os[j]? = some x) (hlt : (gt xs i).2.2.1 < (gt xs x).2.2.1) : InS xs i j ((os.set (j + 1) x).set j i) := by
  obtain ⟨A, B, hA, rfl, hp, hs, hb⟩ := h
  obtain ⟨A', y, rfl, hl⟩ := split_last hA
  subst hl
  have e : x = y := by simp at hx; exact hx.symm
  subst e
  refine ⟨A', x :: B, rfl, ?_, by simpa using hp, by simpa using hs, fun b hb' => ?_⟩
  · have e1 : (A' ++ [x] ++ i :: (B ++ List.range' (i + 1) (xs.length - (i + 1)))).set (A'.length + 1) x = A' ++ [x] ++ x :: (B ++ List.range' (i + 1) (xs.length - (i + 1))) := by
      rw [List.set_append_right _ _ (by simp)]; simp
    rw [e1, List.append_assoc, List.set_append_right _ _ (Nat.le_refl _)]; simp
  · rcases List.mem_cons.1 hb' with rfl | hb'
    · exact hlt
    · exact hb b hb'
theorem ins_stop (A B : List Nat) (hp : (A ++ B).Perm (List.range i)) (hs : (A ++ B).Pairwise (bef xs)) (hb : ∀ b ∈ B, (gt xs i).2.2.1 < (gt xs b).2.2.1) (ha : ∀ a ∈ A, (gt xs a).2.2.1 ≤ (gt xs i).2.2.1) :
    OuS xs (i + 1) (A ++ i :: (B ++ List.range' (i + 1) (xs.length - (i + 1)))) := by
  refine ⟨A ++ i :: B, by simp, ?_, ?_⟩
  · rw [List.range_succ]
    exact List.perm_middle.trans ((List.Perm.cons i hp).trans (List.perm_append_singleton i _).symm)
  · rw [List.pairwise_append] at hs ⊢
    refine ⟨hs.1, List.pairwise_cons.2 ⟨fun b hb' => .inl (hb b hb'), hs.2.1⟩, fun a ha' b hb' => ?_⟩
    rcases List.mem_cons.1 hb' with rfl | hb'
    · have h1 := ha a ha'
      have h2 := List.mem_range.1 (hp.mem_iff.1 (List.mem_append_left B ha'))
      unfold bef
      omega
    · exact hs.2.2 a ha' b hb'
theorem inS_zero (h : InS xs i 0 os) : OuS xs (i + 1) os := by
  obtain ⟨A, B, hA, rfl, hp, hs, hb⟩ := h
  obtain rfl := List.eq_nil_of_length_eq_zero hA
  exact ins_stop [] B hp hs hb (by simp)
theorem inS_stop (h : InS xs i (j + 1) os) (hx : os[j]? = some x) (hlt : ¬ (gt xs i).2.2.1 < (gt xs x).2.2.1) : OuS xs (i + 1) os := by
  obtain ⟨A, B, hA, rfl, hp, hs, hb⟩ := h
  obtain ⟨A', y, rfl, hl⟩ := split_last hA
  subst hl
  have e : x = y := by simp at hx; exact hx.symm
  subst e
  refine ins_stop _ B hp hs hb fun a ha => ?_
  rcases List.mem_append.1 ha with ha | ha
  · have h2 := (List.pairwise_append.1 (List.pairwise_append.1 hs).1).2.2 a ha x (by simp)
    unfold bef at h2
    omega
  · rw [List.mem_singleton] at ha
    subst ha
    omega
theorem ouS_end0 (h : xs.length = 0) : Ord xs [] := ⟨by rw [h]; exact List.Perm.refl _, List.Pairwise.nil⟩
end
/-- Places as numbers. -/
def ni (os : List Nat) : List Int := os.map fun (n : Nat) => (n : Int)
theorem ni_len (os : List Nat) : (ni os).length = os.length := by simp [ni]
theorem ni_set (os : List Nat) (i v : Nat) : (ni os).set i (v : Int) = ni (os.set i v) := by simp [ni, List.map_set]
theorem ni_append (os ps : List Nat) : ni (os ++ ps) = ni os ++ ni ps := by simp [ni]
theorem ni_take (os : List Nat) (k : Nat) : (ni os).take k = ni (os.take k) := by simp [ni, List.map_take]
theorem ni_at {os : List Nat} {i x : Nat} (h : os[i]? = some x) : (ni os)[i]? = some (x : Int) := by simp [ni, h]
end Go.Proofs.Ytkkikpmelpjllaa
