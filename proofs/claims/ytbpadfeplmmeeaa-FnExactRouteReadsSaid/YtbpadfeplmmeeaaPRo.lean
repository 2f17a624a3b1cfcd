/- Routing in plain Lean: no program in sight. -/
import Derived.Test.YtbpadfeplmmeeaaPHo
namespace Go.Proofs.Ytbpadfeplmmeeaa
/-- The host k can be read with a lag. -/
def elig (xs : List Ho) (lag : Int) (k : Nat) : Prop := ∃ h : k < xs.length, xs[k].2.2 = false ∧ xs[k].2.1 ≤ lag
/-- The load of the host k. -/
def ldo (xs : List Ho) (k : Nat) : Int := (xs.getD k (0, 0, false)).1
theorem ldo_at {xs : List Ho} {k : Nat} (h : k < xs.length) : ldo xs k = xs[k].1 := by simp [ldo, List.getD_eq_getElem?_getD, List.getElem?_eq_getElem h]
/-- One step of routing: the best so far, and the host k. -/
def rstep (xs : List Ho) (lag : Int) (b : Int) (k : Nat) : Int :=
  if h : k < xs.length then
    if xs[k].2.2 = false ∧ xs[k].2.1 ≤ lag ∧ (b < 0 ∨ xs[k].1 < ldo xs b.toNat ∨ (xs[k].1 = ldo xs b.toNat ∧ b = 0)) then k else b
  else b
/-- The best of the first k hosts, -1 for none. -/
def rte (xs : List Ho) (lag : Int) : Nat → Int
  | 0 => -1
  | k + 1 => rstep xs lag (rte xs lag k) k
theorem rstep_down {xs : List Ho} {lag b : Int} {k : Nat} (h : k < xs.length) (h1 : xs[k].2.2 = true) : rstep xs lag b k = b := by
  unfold rstep; rw [dif_pos h, if_neg]; rintro ⟨h2, _⟩; rw [h1] at h2; cases h2
theorem rstep_late {xs : List Ho} {lag b : Int} {k : Nat} (h : k < xs.length) (h1 : lag < xs[k].2.1) : rstep xs lag b k = b := by
  unfold rstep; rw [dif_pos h, if_neg]; rintro ⟨_, h2, _⟩; omega
theorem rstep_first {xs : List Ho} {lag b : Int} {k : Nat} (h : k < xs.length) (h1 : xs[k].2.2 = false) (h2 : xs[k].2.1 ≤ lag) (hb : b < 0) : rstep xs lag b k = k := by
  unfold rstep; rw [dif_pos h, if_pos ⟨h1, h2, .inl hb⟩]
theorem rstep_less {xs : List Ho} {lag : Int} {j k : Nat} (h : k < xs.length) (hj : j < xs.length) (h1 : xs[k].2.2 = false) (h2 : xs[k].2.1 ≤ lag) (h3 : xs[k].1 < xs[j].1) : rstep xs lag (j : Int) k = k := by
  unfold rstep; rw [dif_pos h, if_pos ⟨h1, h2, .inr (.inl (by rw [Int.toNat_natCast, ldo_at hj]; exact h3))⟩]
theorem rstep_zero {xs : List Ho} {lag : Int} {j k : Nat} (h : k < xs.length) (hj : j < xs.length) (h1 : xs[k].2.2 = false) (h2 : xs[k].2.1 ≤ lag) (h3 : xs[k].1 = xs[j].1) (h0 : j = 0) : rstep xs lag (j : Int) k = k := by
  unfold rstep; rw [dif_pos h, if_pos ⟨h1, h2, .inr (.inr ⟨by rw [Int.toNat_natCast, ldo_at hj]; exact h3, by omega⟩)⟩]
theorem rstep_same {xs : List Ho} {lag : Int} {j k : Nat} (h : k < xs.length) (hj : j < xs.length) (h3 : ¬ xs[k].1 < xs[j].1) (h4 : ¬ (xs[k].1 = xs[j].1 ∧ j = 0)) : rstep xs lag (j : Int) k = j := by
  unfold rstep
  rw [dif_pos h, if_neg]
  rintro ⟨_, _, h5 | h5 | ⟨h5, h6⟩⟩
  · omega
  · rw [Int.toNat_natCast, ldo_at hj] at h5; exact h3 h5
  · rw [Int.toNat_natCast, ldo_at hj] at h5; exact h4 ⟨h5, by omega⟩
/-- What the best of the first k hosts is. -/
structure Best (xs : List Ho) (lag : Int) (k : Nat) (b : Int) : Prop where
  none : b < 0 → b = -1 ∧ ∀ i, i < k → ¬ elig xs lag i
  some : ∀ j : Nat, b = (j : Int) → j < k ∧ elig xs lag j ∧ ∀ i, i < k → elig xs lag i → ldo xs j ≤ ldo xs i ∧ (ldo xs i = ldo xs j → 0 < i → (j ≤ i ∧ j ≠ 0))
theorem best_rte (xs : List Ho) (lag : Int) (k : Nat) (hk : k ≤ xs.length) : Best xs lag k (rte xs lag k) := by
  induction k with
  | zero => exact ⟨fun _ => ⟨rfl, fun i hi => absurd hi (Nat.not_lt_zero _)⟩, fun j hj => by have hj : (-1 : Int) = (j : Int) := hj; omega⟩
  | succ k ih =>
    have ih := ih (by omega)
    have hlt : k < xs.length := by omega
    show Best xs lag (k + 1) (rstep xs lag (rte xs lag k) k)
    generalize rte xs lag k = b at ih
    have keep : ¬ elig xs lag k → rstep xs lag b k = b → Best xs lag (k + 1) (rstep xs lag b k) := fun hn he => by
      rw [he]
      refine ⟨fun h => ⟨(ih.none h).1, fun i hi => ?_⟩, fun j hj => ⟨by have := (ih.some j hj).1; omega, (ih.some j hj).2.1, fun i hi he => ?_⟩⟩
      · by_cases hik : i = k
        · rw [hik]; exact hn
        · exact (ih.none h).2 i (by omega)
      · by_cases hik : i = k
        · rw [hik] at he; exact absurd he hn
        · exact (ih.some j hj).2.2 i (by omega) he
    cases h1 : xs[k].2.2 with
    | true => exact keep (fun ⟨_, h2, _⟩ => by rw [h1] at h2; cases h2) (rstep_down hlt h1)
    | false =>
      by_cases h2 : xs[k].2.1 ≤ lag
      · have hel : elig xs lag k := ⟨hlt, h1, h2⟩
        by_cases hb : b < 0
        · rw [rstep_first hlt h1 h2 hb]
          refine ⟨fun h => absurd h (by omega), fun j hj => ?_⟩
          obtain rfl : k = j := by omega
          refine ⟨by omega, hel, fun i hi he => ?_⟩
          by_cases hik : i = k
          · subst hik; exact ⟨Int.le_refl _, fun _ h0 => ⟨Nat.le_refl _, by omega⟩⟩
          · exact absurd he ((ih.none hb).2 i (by omega))
        · obtain ⟨j, rfl⟩ : ∃ j : Nat, b = (j : Int) := ⟨b.toNat, by omega⟩
          obtain ⟨hjk, hej, hmin⟩ := ih.some j rfl
          have hj : j < xs.length := by omega
          have ek := ldo_at hlt
          have ej := ldo_at hj
          by_cases h3 : xs[k].1 < xs[j].1
          · rw [rstep_less hlt hj h1 h2 h3]
            refine ⟨fun h => absurd h (by omega), fun m hm => ?_⟩
            obtain rfl : k = m := by omega
            refine ⟨by omega, hel, fun i hi he => ?_⟩
            by_cases hik : i = k
            · subst hik; exact ⟨Int.le_refl _, fun _ h0 => ⟨Nat.le_refl _, by omega⟩⟩
            · have := hmin i (by omega) he
              exact ⟨by omega, fun e0 => by omega⟩
          · by_cases h4 : xs[k].1 = xs[j].1 ∧ j = 0
            · rw [rstep_zero hlt hj h1 h2 h4.1 h4.2]
              refine ⟨fun h => absurd h (by omega), fun m hm => ?_⟩
              obtain rfl : k = m := by omega
              refine ⟨by omega, hel, fun i hi he => ?_⟩
              by_cases hik : i = k
              · subst hik; exact ⟨Int.le_refl _, fun _ h0 => ⟨Nat.le_refl _, by omega⟩⟩
              · have := hmin i (by omega) he
                refine ⟨by omega, fun e0 h0 => ?_⟩
                have := this.2 (by omega) h0
                omega
            · rw [rstep_same hlt hj h3 h4]
              refine ⟨fun h => absurd h (by omega), fun m hm => ?_⟩
              obtain rfl : j = m := by omega
              refine ⟨by omega, hej, fun i hi he => ?_⟩
              by_cases hik : i = k
              · subst hik; exact ⟨by omega, fun e0 h0 => ⟨by omega, fun hj0 => h4 ⟨by omega, hj0⟩⟩⟩
              · exact hmin i (by omega) he
      · exact keep (fun ⟨_, _, h3⟩ => h2 h3) (rstep_late hlt (by omega))
/-- The host for a read, -1 for none. -/
def RT (xs : List Ho) (lag : Int) : Int := rte xs lag xs.length
theorem best_RT (xs : List Ho) (lag : Int) : Best xs lag xs.length (RT xs lag) := best_rte xs lag _ (Nat.le_refl _)
/-- RouteRead. -/
def RR (xs : List Ho) (lag : Int) : Int := if VH xs = true ∧ inB lag 0 1000 = true then RT xs lag else -1
/-- RouteWrite. -/
def RW (xs : List Ho) : Int := if VH xs = true ∧ (xs.getD 0 (0, 0, false)).2.2 = false then 0 else -1
end Go.Proofs.Ytbpadfeplmmeeaa
