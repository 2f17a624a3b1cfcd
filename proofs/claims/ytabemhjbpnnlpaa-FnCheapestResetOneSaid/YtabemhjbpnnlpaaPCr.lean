/- The cheapest reset in plain Lean; lists of settings in memory. -/
import Derived.Test.YtabemhjbpnnlpaaPSet2
namespace Go.Proofs.Ytabemhjbpnnlpaa
open Go.RowKit
/-- The cheapest of the lists from place i on, 'best' being the cheapest so far, with 'least' changes. -/
def chpL (ys : List St) : List (List St) → Nat → Int → Nat → Int
  | [], _, best, _ => best
  | x :: r, i, best, least => if VS x = true then (if (resetL x ys).length < least then chpL ys r (i + 1) i (resetL x ys).length else chpL ys r (i + 1) best least) else -1
def cheap (xss : List (List St)) (ys : List St) : Int := if xss.length ≤ 6 ∧ VS ys = true then chpL ys xss 0 (-1) 11 else -1
theorem chpL_bad {ys : List St} {xss : List (List St)} {k : Nat} (h : k < xss.length) (hv : ¬ VS xss[k] = true) (i : Nat) (b : Int) (l : Nat) : chpL ys (xss.drop k) i b l = -1 := by
  rw [List.drop_eq_getElem_cons h]; exact if_neg hv
theorem chpL_less {ys : List St} {xss : List (List St)} {k : Nat} (h : k < xss.length) (hv : VS xss[k] = true) (i : Nat) (b : Int) (l : Nat) (hl : (resetL xss[k] ys).length < l) : chpL ys (xss.drop k) i b l = chpL ys (xss.drop (k + 1)) (i + 1) i (resetL xss[k] ys).length := by
  rw [List.drop_eq_getElem_cons h]; exact (if_pos hv).trans (if_pos hl)
theorem chpL_more {ys : List St} {xss : List (List St)} {k : Nat} (h : k < xss.length) (hv : VS xss[k] = true) (i : Nat) (b : Int) (l : Nat) (hl : ¬ (resetL xss[k] ys).length < l) : chpL ys (xss.drop k) i b l = chpL ys (xss.drop (k + 1)) (i + 1) b l := by
  rw [List.drop_eq_getElem_cons h]; exact (if_pos hv).trans (if_neg hl)
theorem chpL_done (ys : List St) (xss : List (List St)) (i : Nat) (b : Int) (l : Nat) : chpL ys (xss.drop xss.length) i b l = b := by simp [chpL]
/-- What the cheapest is: either what was best before and stays so, or a new one. -/
theorem chpL_spec (ys : List St) (xss : List (List St)) (i : Nat) (b : Int) (l : Nat) (h : 0 ≤ chpL ys xss i b l) :
    (∀ x ∈ xss, VS x = true) ∧ ((chpL ys xss i b l = b ∧ ∀ (j : Nat) (hj : j < xss.length), l ≤ (resetL xss[j] ys).length) ∨
      ∃ (m : Nat) (hm : m < xss.length), chpL ys xss i b l = ((i + m : Nat) : Int) ∧ (resetL xss[m] ys).length < l ∧ ∀ (j : Nat) (hj : j < xss.length), (resetL xss[m] ys).length ≤ (resetL xss[j] ys).length ∧ (j < m → (resetL xss[m] ys).length < (resetL xss[j] ys).length)) := by
  induction xss generalizing i b l with
  | nil => exact ⟨fun x hx => (by cases hx), .inl ⟨rfl, fun j hj => absurd hj (by simp)⟩⟩
  | cons x r ih =>
    by_cases hv : VS x = true
    · by_cases hl : (resetL x ys).length < l
      · have e : chpL ys (x :: r) i b l = chpL ys r (i + 1) i (resetL x ys).length := (if_pos hv).trans (if_pos hl)
        rw [e] at h ⊢
        obtain ⟨h1, h2⟩ := ih (i + 1) i _ h
        refine ⟨fun y hy => ?_, .inr ?_⟩
        · rcases List.mem_cons.1 hy with rfl | hy
          · exact hv
          · exact h1 y hy
        · rcases h2 with ⟨e2, h3⟩ | ⟨m, hm, e2, h3, h4⟩
          · refine ⟨0, by simp, by rw [e2]; rfl, hl, fun j hj => ?_⟩
            cases j with
            | zero => exact ⟨Nat.le_refl _, fun hh => absurd hh (by omega)⟩
            | succ j => exact ⟨h3 j (by simpa using hj), fun hh => absurd hh (by omega)⟩
          · refine ⟨m + 1, by simpa using hm, by rw [e2]; congr 1; omega, Nat.lt_trans h3 hl, fun j hj => ?_⟩
            cases j with
            | zero => exact ⟨Nat.le_of_lt h3, fun _ => h3⟩
            | succ j =>
              have := h4 j (by simpa using hj)
              exact ⟨this.1, fun hh => this.2 (by omega)⟩
      · have e : chpL ys (x :: r) i b l = chpL ys r (i + 1) b l := (if_pos hv).trans (if_neg hl)
        rw [e] at h ⊢
        obtain ⟨h1, h2⟩ := ih (i + 1) b l h
        refine ⟨fun y hy => ?_, ?_⟩
        · rcases List.mem_cons.1 hy with rfl | hy
          · exact hv
          · exact h1 y hy
        · rcases h2 with ⟨e2, h3⟩ | ⟨m, hm, e2, h3, h4⟩
          · refine .inl ⟨e2, fun j hj => ?_⟩
            cases j with
            | zero => simp; omega
            | succ j => exact h3 j (by simpa using hj)
          · refine .inr ⟨m + 1, by simpa using hm, by rw [e2]; congr 1; omega, h3, fun j hj => ?_⟩
            cases j with
            | zero => simp; exact ⟨by omega, by omega⟩
            | succ j =>
              have := h4 j (by simpa using hj)
              exact ⟨this.1, fun hh => this.2 (by omega)⟩
    · have e : chpL ys (x :: r) i b l = -1 := if_neg hv
      rw [e] at h; omega
theorem cheap_spec {xss : List (List St)} {ys : List St} (h : 0 ≤ cheap xss ys) :
    VS ys = true ∧ (∀ x ∈ xss, VS x = true) ∧ xss.length ≤ 6 ∧ ∃ (m : Nat) (hm : m < xss.length), cheap xss ys = (m : Int) ∧ ∀ (j : Nat) (hj : j < xss.length), (resetL xss[m] ys).length ≤ (resetL xss[j] ys).length ∧ (j < m → (resetL xss[m] ys).length < (resetL xss[j] ys).length) := by
  unfold cheap at h ⊢
  by_cases hc : xss.length ≤ 6 ∧ VS ys = true
  · rw [if_pos hc] at h ⊢
    obtain ⟨h1, h2⟩ := chpL_spec ys xss 0 (-1) 11 h
    refine ⟨hc.2, h1, hc.1, ?_⟩
    rcases h2 with ⟨e, _⟩ | ⟨m, hm, e, _, h4⟩
    · rw [e] at h; omega
    · exact ⟨m, hm, by rw [e]; congr 1; omega, h4⟩
  · rw [if_neg hc] at h; omega
theorem cheap_one {x ys : List St} (hx : VS x = true) (hy : VS ys = true) : cheap [x] ys = 0 := by
  have h10 := resetL_len x ys
  unfold cheap
  rw [if_pos ⟨by simp, hy⟩]
  exact (if_pos hx).trans (if_pos (by omega))
/-- A list of settings that lies in memory: its address, its capacity, its settings. -/
abbrev Rws := List (Option Addr × Nat × List St)
def crw (r : Option Addr × Nat × List St) : Value := .slice r.1 r.2.2.length r.2.1
def SlL (w : World) (A : Option Addr) (c : Nat) (rs : Rws) : Prop := Sl w 1 A rs.length c (rs.map crw) ∧ ∀ r ∈ rs, SlS w r.1 r.2.1 r.2.2
def lsts (rs : Rws) : List (List St) := rs.map (·.2.2)
theorem lsts_len (rs : Rws) : (lsts rs).length = rs.length := by simp [lsts]
theorem lsts_at (rs : Rws) (i : Nat) (h : i < rs.length) : (lsts rs)[i]'(by rw [lsts_len]; exact h) = rs[i].2.2 := by simp [lsts]
theorem SlL.ext {w w' : World} {A : Option Addr} {c : Nat} {rs : Rws} (h : SlL w A c rs) (hb : Below w.heap.size w w') : SlL w' A c rs := ⟨h.1.ext hb, fun r hr => (h.2 r hr).ext hb⟩
theorem SlL.at {w : World} {A : Option Addr} {c : Nat} {rs : Rws} (h : SlL w A c rs) {i : Nat} (hi : i < rs.length) :
    ∃ ad, A = some ad ∧ ad.block < w.heap.size ∧ w.cell? (ad.add i) = some (.slice rs[i].1 rs[i].2.2.length rs[i].2.1) ∧ SlS w rs[i].1 rs[i].2.1 rs[i].2.2 := by
  obtain ⟨ad, e, hb, hc⟩ := Sl.addr h.1 (by omega)
  exact ⟨ad, e, hb, hc i _ (by simp [hi, crw]), h.2 _ (List.getElem_mem hi)⟩
end Go.Proofs.Ytabemhjbpnnlpaa
