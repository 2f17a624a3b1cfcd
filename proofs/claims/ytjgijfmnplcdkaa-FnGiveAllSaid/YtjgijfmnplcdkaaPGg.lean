/- GiveAll one by one, in plain Lean: no program in sight. -/
import Derived.Test.YtjgijfmnplcdkaaPGr
namespace Go.Proofs.Ytjgijfmnplcdkaa
theorem NO_yes {t : Int} {xs zs lf : List Int} (hv : VSh t xs zs = true) (hl : lf.length ≤ 12) (hq : allL lf 0 4 = true) : NO t xs zs lf = NX t xs zs lf := if_pos (by simp only [askB, hv, hq, decide_eq_true hl, Bool.true_and])
/-- What is still to be given. -/
structure Giv (t : Int) (xs rest zs lf : List Int) : Prop where
  len : lf.length ≤ 12
  v : VSh t xs zs = true
  ok : (allL lf 0 4 = true ∧ rest = GA t xs lf.length zs lf) ∨ (allL lf 0 4 = false ∧ rest = [])
theorem Giv.first {t : Int} {xs ys asks : List Int} (hv : VSh t xs ys = true) (hl : asks.length ≤ 12) : Giv t xs (GALL t xs ys asks) ys asks := by
  refine ⟨hl, hv, ?_⟩
  unfold GALL askB
  rw [hv, decide_eq_true hl]
  cases h : allL asks 0 4 with
  | true => exact .inl ⟨rfl, by simp⟩
  | false => exact .inr ⟨rfl, by simp⟩
theorem Giv.done {t : Int} {xs zs lf : List Int} (h : Giv t xs [] zs lf) : NO t xs zs lf = -1 := by
  rcases h.ok with ⟨hq, e⟩ | ⟨hq, -⟩
  · rw [NO_yes h.v h.len hq]
    rcases NX_cases t xs zs lf with hs | ⟨j, G⟩
    · exact hs
    · have hl := G.lt
      obtain ⟨n, hn⟩ : ∃ n, lf.length = n + 1 := ⟨lf.length - 1, by omega⟩
      rw [hn, GA_step G.nx] at e
      cases e
  · exact if_neg (by simp [askB, hq])
theorem Giv.step {t : Int} {xs rest zs lf : List Int} {o : Int} (h : Giv t xs (o :: rest) zs lf) :
    ∃ j k : Nat, NO t xs zs lf = (j : Int) ∧ j < lf.length ∧ at0 lf j = (k : Int) ∧ o = (k : Int) ∧ k < 5 ∧ AD t xs zs (k : Int) 1 = some (chg zs k 1) ∧ Giv t xs rest (chg zs k 1) (lf.eraseIdx j) := by
  rcases h.ok with ⟨hq, e⟩ | ⟨-, e⟩
  · rw [NO_yes h.v h.len hq]
    rcases NX_cases t xs zs lf with hs | ⟨j, G⟩
    · rw [GA_stop (by omega)] at e; cases e
    · have hl := G.lt
      obtain ⟨n, hn⟩ : ∃ n, lf.length = n + 1 := ⟨lf.length - 1, by omega⟩
      rw [hn, GA_step G.nx] at e
      injection e with e1 e2
      have hb := allL_at0 hq hl
      obtain ⟨k, hk⟩ : ∃ k : Nat, at0 lf j = (k : Int) := ⟨(at0 lf j).toNat, by omega⟩
      obtain ⟨hv2, hAD⟩ := G.give h.v hq
      rw [hk, Int.toNat_natCast] at e2 hv2 hAD
      have hle : (lf.eraseIdx j).length = n := by rw [List.length_eraseIdx_of_lt hl]; omega
      exact ⟨j, k, G.nx, hl, hk, by rw [e1, hk], by omega, hAD, by have := h.len; omega, hv2, .inl ⟨allL_erase hq j, by rw [hle, e2]⟩⟩
  · cases e
end Go.Proofs.Ytjgijfmnplcdkaa
