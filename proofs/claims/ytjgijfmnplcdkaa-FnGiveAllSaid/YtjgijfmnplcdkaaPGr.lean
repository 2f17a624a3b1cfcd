/- GiveAll gives to those who have little, in plain Lean: no program in sight. -/
import Derived.Test.YtjgijfmnplcdkaaPGb
namespace Go.Proofs.Ytjgijfmnplcdkaa
theorem GA_len (t : Int) (xs : List Int) : ∀ (n : Nat) (ys left : List Int), (GA t xs n ys left).length ≤ n
  | 0, _, _ => by simp [GA]
  | n + 1, ys, left => by
    rcases NX_cases t xs ys left with h | ⟨j, G⟩
    · rw [GA_stop (by omega)]; simp
    · rw [GA_step G.nx, List.length_cons]
      have := GA_len t xs n (chg ys (at0 left j).toNat 1) (left.eraseIdx j)
      omega
theorem GALL_len (t : Int) (xs ys asks : List Int) : (GALL t xs ys asks).length ≤ asks.length := by
  unfold GALL
  split
  · exact GA_len _ _ _ _ _
  · simp
theorem at0_chg {ys : List Int} {o : Nat} (h : o < ys.length) (v : Int) (i : Nat) : at0 (chg ys o v) i = if o = i then at0 ys o + v else at0 ys i := by
  unfold chg
  by_cases hi : i < ys.length
  · rw [at0_of (by rw [List.length_set]; exact hi), List.getElem_set]
    split
    · rfl
    · rw [at0_of hi]
  · have e : o ≠ i := by omega
    rw [if_neg e]
    unfold at0
    simp [hi]
theorem at0_erase {xs : List Int} {j i : Nat} (h : i < (xs.eraseIdx j).length) (hj : j < xs.length) : ∃ k, k < xs.length ∧ at0 (xs.eraseIdx j) i = at0 xs k := by
  have hl : (xs.eraseIdx j).length + 1 = xs.length := by rw [List.length_eraseIdx_of_lt hj]; omega
  rw [at0_of h, List.getElem_eraseIdx]
  split
  · exact ⟨i, by omega, by rw [at0_of (by omega)]⟩
  · exact ⟨i + 1, by omega, by rw [at0_of (by omega)]⟩
/-- What is still to be given, and to whom at least: to nobody who has less than l. -/
structure Ris (t : Int) (xs rest zs lf : List Int) (n : Nat) (l : Int) : Prop where
  rest : rest = GA t xs n zs lf
  v : VSh t xs zs = true
  q : allL lf 0 4 = true
  l : ∀ i, i < lf.length → may xs zs lf i → l ≤ hasK zs lf i
theorem Ris.step {t : Int} {xs rest zs lf : List Int} {n : Nat} {l o : Int} (h : Ris t xs (o :: rest) zs lf n l) :
    ∃ k : Nat, o = (k : Int) ∧ k < 5 ∧ l ≤ at0 zs k ∧ ∃ n' lf', Ris t xs rest (chg zs k 1) lf' n' (at0 zs k) := by
  cases n with
  | zero => cases h.rest
  | succ n =>
    rcases NX_cases t xs zs lf with hs | ⟨j, G⟩
    · have := h.rest; rw [GA_stop (by omega)] at this; cases this
    · have hr := h.rest
      rw [GA_step G.nx] at hr
      injection hr with e1 e2
      have hb := allL_at0 h.q G.lt
      obtain ⟨k, hk⟩ : ∃ k : Nat, at0 lf j = (k : Int) := ⟨(at0 lf j).toNat, by omega⟩
      have hK : hasK zs lf j = at0 zs k := by unfold hasK; rw [hk, Int.toNat_natCast]
      have hl := h.l j G.lt G.my
      have hv2 := (G.give h.v h.q).1
      rw [hk, Int.toNat_natCast] at e2 hv2
      have hk5 : k < 5 := by omega
      have hlz : zs.length = 5 := (valid_iff.1 h.v).ly
      refine ⟨k, by rw [e1, hk], hk5, by rw [← hK]; exact hl, n, lf.eraseIdx j, e2, hv2, allL_erase h.q j, ?_⟩
      intro i hi hm
      obtain ⟨i', hi', e⟩ := at0_erase hi G.lt
      unfold may at hm
      unfold hasK
      rw [e] at hm ⊢
      rw [at0_chg (by omega)] at hm ⊢
      split
      · omega
      · rename_i hne
        rw [if_neg hne] at hm
        have := G.least i' hi' hm
        rw [hK] at this
        exact this
theorem Ris.first {t : Int} {xs ys asks : List Int} (hv : VSh t xs ys = true) : ∃ n lf, Ris t xs (GALL t xs ys asks) ys lf n 0 := by
  have hy : ∀ lf, allL lf 0 4 = true → ∀ i, i < lf.length → may xs ys lf i → 0 ≤ hasK ys lf i := fun lf hq i hi _ => by
    have hb := allL_at0 hq hi
    exact ((valid_iff.1 hv).my _ (by omega)).1
  unfold GALL
  split
  · rename_i h
    unfold askB at h
    simp only [Bool.and_eq_true] at h
    exact ⟨asks.length, asks, rfl, hv, h.2.2, hy asks h.2.2⟩
  · exact ⟨0, [], rfl, hv, by simp [allL], fun i hi => by simp at hi⟩
end Go.Proofs.Ytjgijfmnplcdkaa
