/- Shares in plain Lean: no program in sight. -/
import Derived.Test.YtjhhacmfhancpaaWI
namespace Go.Proofs.Ytjhhacmfhancpaa
/-- The number at a place, 0 outside. -/
def at0 (xs : List Int) (i : Nat) : Int := xs.getD i 0
theorem at0_of {xs : List Int} {i : Nat} (h : i < xs.length) : at0 xs i = xs[i] := by simp [at0, List.getD_eq_getElem?_getD, List.getElem?_eq_getElem h]
/-- Each number of the first list is in 0 to the one of the second at its place. -/
def uptoL (ys xs : List Int) (k : Nat) : Bool := (List.range k).all fun i => inB (at0 ys i) 0 (at0 xs i)
theorem uptoL_next (ys xs : List Int) (k : Nat) : uptoL ys xs (k + 1) = (uptoL ys xs k && inB (at0 ys k) 0 (at0 xs k)) := by
  simp [uptoL, List.range_succ, List.all_append]
theorem uptoL_le {ys xs : List Int} {m k : Nat} (h : uptoL ys xs m = false) (hk : m ≤ k) : uptoL ys xs k = false := by
  induction k with
  | zero => obtain rfl : m = 0 := by omega
            exact h
  | succ k ih =>
    by_cases hm : m = k + 1
    · rw [← hm]; exact h
    · rw [uptoL_next, ih (by omega)]; rfl
theorem uptoL_at {ys xs : List Int} {k : Nat} (h : uptoL ys xs k = true) {i : Nat} (hi : i < k) : 0 ≤ at0 ys i ∧ at0 ys i ≤ at0 xs i := by
  unfold uptoL at h
  rw [List.all_eq_true] at h
  exact inB_iff.1 (h i (List.mem_range.2 hi))
theorem uptoL_of {ys xs : List Int} {k : Nat} (h : ∀ i, i < k → 0 ≤ at0 ys i ∧ at0 ys i ≤ at0 xs i) : uptoL ys xs k = true := by
  unfold uptoL
  rw [List.all_eq_true]
  intro i hi
  have := h i (List.mem_range.1 hi)
  exact inB_true this.1 this.2
/-- Shares are valid. -/
def VSh (t : Int) (xs ys : List Int) : Bool := inB t 0 20 && (xs.length == 5 && (ys.length == 5 && (allL xs 0 20 && (uptoL ys xs 5 && decide (ys.sum ≤ t)))))
structure Valid (t : Int) (xs ys : List Int) : Prop where
  t0 : 0 ≤ t
  t1 : t ≤ 20
  lx : xs.length = 5
  ly : ys.length = 5
  mx : ∀ i, i < 5 → 0 ≤ at0 xs i ∧ at0 xs i ≤ 20
  my : ∀ i, i < 5 → 0 ≤ at0 ys i ∧ at0 ys i ≤ at0 xs i
  sm : ys.sum ≤ t
theorem valid_iff {t : Int} {xs ys : List Int} : VSh t xs ys = true ↔ Valid t xs ys := by
  constructor
  · intro h
    simp only [VSh, Bool.and_eq_true, beq_iff_eq, decide_eq_true_eq] at h
    obtain ⟨h1, h2, h3, h4, h5, h6⟩ := h
    have h1 := inB_iff.1 h1
    refine ⟨h1.1, h1.2, h2, h3, fun i hi => ?_, fun i hi => uptoL_at h5 hi, h6⟩
    rw [at0_of (by omega)]
    exact allL_at h4 (by omega)
  · intro h
    simp only [VSh, Bool.and_eq_true, beq_iff_eq, decide_eq_true_eq]
    refine ⟨inB_true h.t0 h.t1, h.lx, h.ly, ?_, uptoL_of h.my, h.sm⟩
    unfold allL
    rw [List.all_eq_true]
    intro v hv
    obtain ⟨i, hi, rfl⟩ := List.mem_iff_getElem.1 hv
    have := h.mx i (by have := h.lx; omega)
    rw [at0_of hi] at this
    exact inB_true this.1 this.2
theorem sum_take_next {ys : List Int} {k : Nat} (h : k < ys.length) : (ys.take (k + 1)).sum = (ys.take k).sum + ys[k] := by
  rw [List.take_succ_eq_append_getElem h, List.sum_append]; simp
theorem sum_bound {ys : List Int} (h : ∀ i, i < ys.length → 0 ≤ at0 ys i ∧ at0 ys i ≤ 1000) : ∀ k, k ≤ ys.length → 0 ≤ (ys.take k).sum ∧ (ys.take k).sum ≤ 1000 * k := by
  intro k
  induction k with
  | zero => intro _; simp
  | succ k ih =>
    intro hk
    have h1 := ih (by omega)
    have h2 := h k (by omega)
    rw [at0_of (by omega)] at h2
    rw [sum_take_next (by omega)]
    omega
/-- The sum is that of five numbers. -/
theorem sum5 {ys : List Int} (h : ys.length = 5) : ys.sum = at0 ys 0 + at0 ys 1 + at0 ys 2 + at0 ys 3 + at0 ys 4 := by
  match ys, h with
  | [a, b, c, d, e], _ => simp [at0]; omega
theorem at0_set {ys : List Int} {i : Nat} (v : Int) (h : i < ys.length) (k : Nat) : at0 (ys.set i v) k = if k = i then v else at0 ys k := by
  simp only [at0, List.getD_eq_getElem?_getD, List.getElem?_set]
  by_cases e : i = k
  · subst e; simp [h]
  · rw [if_neg e, if_neg (fun e' => e e'.symm)]
theorem sum_set {ys : List Int} (h : ys.length = 5) {i : Nat} (hi : i < 5) (v : Int) : (ys.set i v).sum = ys.sum - at0 ys i + v := by
  match ys, h, i, hi with
  | [a, b, c, d, e], _, 0, _ => simp [at0]; omega
  | [a, b, c, d, e], _, 1, _ => simp [at0]; omega
  | [a, b, c, d, e], _, 2, _ => simp [at0]; omega
  | [a, b, c, d, e], _, 3, _ => simp [at0]; omega
  | [a, b, c, d, e], _, 4, _ => simp [at0]; omega
/-- One step to the next owner: the best so far, and the ask k. -/
def nstep (xs ys asks : List Int) (b : Int) (k : Nat) : Int :=
  if at0 ys (at0 asks k).toNat < at0 xs (at0 asks k).toNat ∧ (b < 0 ∨ at0 ys (at0 asks k).toNat < at0 ys (at0 asks b.toNat).toNat) then k else b
/-- The best of the first k asks, -1 for none. -/
def nxt (xs ys asks : List Int) : Nat → Int
  | 0 => -1
  | k + 1 => nstep xs ys asks (nxt xs ys asks k) k
/-- The ask k may get something. -/
def may (xs ys asks : List Int) (k : Nat) : Prop := at0 ys (at0 asks k).toNat < at0 xs (at0 asks k).toNat
/-- What the asker k has. -/
def hasK (ys asks : List Int) (k : Nat) : Int := at0 ys (at0 asks k).toNat
structure BestN (xs ys asks : List Int) (k : Nat) (b : Int) : Prop where
  none : b < 0 → b = -1 ∧ ∀ i, i < k → ¬ may xs ys asks i
  some : ∀ j : Nat, b = (j : Int) → j < k ∧ may xs ys asks j ∧ ∀ i, i < k → may xs ys asks i → hasK ys asks j ≤ hasK ys asks i ∧ (hasK ys asks i = hasK ys asks j → j ≤ i)
theorem best_nxt (xs ys asks : List Int) (k : Nat) : BestN xs ys asks k (nxt xs ys asks k) := by
  induction k with
  | zero => exact ⟨fun _ => ⟨rfl, fun i hi => absurd hi (Nat.not_lt_zero _)⟩, fun j hj => by have hj : (-1 : Int) = (j : Int) := hj; omega⟩
  | succ k ih =>
    show BestN xs ys asks (k + 1) (nstep xs ys asks (nxt xs ys asks k) k)
    generalize nxt xs ys asks k = b at ih
    unfold nstep
    by_cases hm : may xs ys asks k
    · have hm' : at0 ys (at0 asks k).toNat < at0 xs (at0 asks k).toNat := hm
      by_cases hb : b < 0
      · rw [if_pos ⟨hm', .inl hb⟩]
        refine ⟨fun h => absurd h (by omega), fun j hj => ?_⟩
        obtain rfl : k = j := by omega
        refine ⟨by omega, hm, fun i hi he => ?_⟩
        by_cases hik : i = k
        · subst hik; exact ⟨Int.le_refl _, fun _ => Nat.le_refl _⟩
        · exact absurd he ((ih.none hb).2 i (by omega))
      · obtain ⟨j, rfl⟩ : ∃ j : Nat, b = (j : Int) := ⟨b.toNat, by omega⟩
        obtain ⟨hjk, hej, hmin⟩ := ih.some j rfl
        by_cases h3 : hasK ys asks k < hasK ys asks j
        · rw [if_pos ⟨hm', .inr (by rw [Int.toNat_natCast]; exact h3)⟩]
          refine ⟨fun h => absurd h (by omega), fun m hm2 => ?_⟩
          obtain rfl : k = m := by omega
          refine ⟨by omega, hm, fun i hi he => ?_⟩
          by_cases hik : i = k
          · subst hik; exact ⟨Int.le_refl _, fun _ => Nat.le_refl _⟩
          · have := hmin i (by omega) he
            exact ⟨by omega, fun e0 => by omega⟩
        · rw [if_neg (by rintro ⟨_, h5 | h5⟩; · omega
                         · rw [Int.toNat_natCast] at h5; exact h3 h5)]
          refine ⟨fun h => absurd h (by omega), fun m hm2 => ?_⟩
          obtain rfl : j = m := by omega
          refine ⟨by omega, hej, fun i hi he => ?_⟩
          by_cases hik : i = k
          · subst hik; exact ⟨by omega, fun e0 => by omega⟩
          · exact hmin i (by omega) he
    · rw [if_neg (fun h => hm h.1)]
      refine ⟨fun h => ⟨(ih.none h).1, fun i hi => ?_⟩, fun j hj => ⟨by have := (ih.some j hj).1; omega, (ih.some j hj).2.1, fun i hi he => ?_⟩⟩
      · by_cases hik : i = k
        · rw [hik]; exact hm
        · exact (ih.none h).2 i (by omega)
      · by_cases hik : i = k
        · rw [hik] at he; exact absurd he hm
        · exact (ih.some j hj).2.2 i (by omega) he
/-- The next one of valid shares. -/
def NX (t : Int) (xs ys asks : List Int) : Int := if ys.sum = t then -1 else nxt xs ys asks asks.length
/-- Owners may ask. -/
def askB (t : Int) (xs ys asks : List Int) : Bool := VSh t xs ys && (decide (asks.length ≤ 12) && allL asks 0 4)
/-- NextOwner. -/
def NO (t : Int) (xs ys asks : List Int) : Int := if askB t xs ys asks = true then NX t xs ys asks else -1
/-- What an owner has, changed. -/
def chg (ys : List Int) (o : Nat) (v : Int) : List Int := ys.set o (at0 ys o + v)
theorem chg_len (ys : List Int) (o : Nat) (v : Int) : (chg ys o v).length = ys.length := by simp [chg]
/-- GiveShare, TakeShare: what is had afterwards. -/
def AD (t : Int) (xs ys : List Int) (o v : Int) : Option (List Int) :=
  if VSh t xs ys = true ∧ inB o 0 4 = true ∧ VSh t xs (chg ys o.toNat v) = true then some (chg ys o.toNat v) else none
theorem AD_no1 {t : Int} {xs ys : List Int} {o v : Int} (h : VSh t xs ys = false) : AD t xs ys o v = none := if_neg fun h' => by rw [h] at h'; cases h'.1
theorem AD_no2 {t : Int} {xs ys : List Int} {o v : Int} (h : inB o 0 4 = false) : AD t xs ys o v = none := if_neg fun h' => by rw [h] at h'; cases h'.2.1
theorem AD_no3 {t : Int} {xs ys : List Int} {i : Nat} {v : Int} (h : VSh t xs (chg ys i v) = false) : AD t xs ys (i : Int) v = none := if_neg fun h' => by
  rw [Int.toNat_natCast, h] at h'; cases h'.2.2
theorem AD_ok {t : Int} {xs ys : List Int} {i : Nat} {v : Int} (h1 : VSh t xs ys = true) (h2 : inB (i : Int) 0 4 = true) (h3 : VSh t xs (chg ys i v) = true) : AD t xs ys (i : Int) v = some (chg ys i v) := by
  unfold AD
  rw [if_pos ⟨h1, h2, by rw [Int.toNat_natCast]; exact h3⟩, Int.toNat_natCast]
theorem give_valid {t : Int} {xs ys : List Int} {i : Nat} (h : VSh t xs ys = true) (hi : i < 5) : VSh t xs (chg ys i 1) = true ↔ at0 ys i < at0 xs i ∧ ys.sum < t := by
  have V := valid_iff.1 h
  constructor
  · intro h2
    have W := valid_iff.1 h2
    have a := W.my i hi
    have b := W.sm
    unfold chg at a b
    rw [at0_set _ (by rw [V.ly]; exact hi), if_pos rfl] at a
    rw [sum_set V.ly hi] at b
    omega
  · rintro ⟨h1, h2⟩
    refine valid_iff.2 ⟨V.t0, V.t1, V.lx, by rw [chg_len]; exact V.ly, V.mx, fun k hk => ?_, ?_⟩
    · unfold chg
      rw [at0_set _ (by rw [V.ly]; exact hi)]
      have a := V.my k hk
      split
      · rename_i e; subst e; omega
      · exact a
    · unfold chg
      rw [sum_set V.ly hi]
      omega
theorem take_valid {t : Int} {xs ys : List Int} {i : Nat} (h : VSh t xs ys = true) (hi : i < 5) : VSh t xs (chg ys i (-1)) = true ↔ at0 ys i ≠ 0 := by
  have V := valid_iff.1 h
  have a0 := V.my i hi
  constructor
  · intro h2
    have W := valid_iff.1 h2
    have a := W.my i hi
    unfold chg at a
    rw [at0_set _ (by rw [V.ly]; exact hi), if_pos rfl] at a
    omega
  · intro h1
    refine valid_iff.2 ⟨V.t0, V.t1, V.lx, by rw [chg_len]; exact V.ly, V.mx, fun k hk => ?_, ?_⟩
    · unfold chg
      rw [at0_set _ (by rw [V.ly]; exact hi)]
      have a := V.my k hk
      split
      · rename_i e; subst e; omega
      · exact a
    · unfold chg
      rw [sum_set V.ly hi]
      have := V.sm
      omega
end Go.Proofs.Ytjhhacmfhancpaa
