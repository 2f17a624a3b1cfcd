/- The walk of the exact law of ValidSettings. -/
import Derived.Test.YtabemhjbpnnlpaaEx
import Derived.Test.YtabemhjbpnnlpaaWVs
namespace Go.Proofs.Ytabemhjbpnnlpaa
open Go.RowKit
theorem eqL_refl (xs : List St) : eqL xs xs = true := decide_eq_true rfl
set_option maxHeartbeats 1000000 in
theorem lawExactValidSettings (A : Option Addr) (c : Nat) (xs : List St) (w : World) (h : SlS w A c xs) :
    Calls Try.prog 4 #[.slice A xs.length c] w fun e w' => e = .returned (.bool true) ∧ Below w.heap.size w w' := by
  have hmax := h.max
  have hcap := h.cap
  unfold maxLen at hmax
  by_cases hn : xs.length ≤ 1048576
  · obtain ⟨m, hm, hm1⟩ := lft_in hn
    have HL := hd hm
    have HS := hd (eqL_refl xs)
    have gne : (VS xs != VS xs) = false := by simp
    have hb := Below.refl w.heap.size w
    clear hm
    go_enter Try.func4, Try.ntmps4
    go_wp2_with fail
    refine (szS_any A _ c 1048576 w (by omega) (by decide) (by decide)).mono ?_
    rintro e w' ⟨rfl, rfl⟩
    rw [HL.out]
    go_wp2_with fail
    refine (toSS_any _ _ _ _ h hn).mono ?_
    rintro e w1 ⟨P, p, rfl, r, hx⟩
    replace s := r.sl; replace h := h.ext hx; replace hb := ext_trans hb hx; clear hx
    go_wp2_with fail
    refine (sVS_any _ _ _ _ s).mono ?_
    rintro e w1 ⟨rfl, hx⟩
    replace h := h.ext hx; replace hb := ext_trans hb hx; clear hx
    go_wp2_with fail
    refine (toSS_any _ _ _ _ h hn).mono ?_
    rintro e w1 ⟨Q, q, rfl, r1, hx⟩
    replace s1 := r1.sl; replace h := h.ext hx; replace hb := ext_trans hb hx; clear hx
    go_wp2_with fail
    refine (vs_any _ _ _ _ s1).mono ?_
    rintro e w1 ⟨rfl, hx⟩
    replace h := h.ext hx; replace s1 := s1.ext hx; replace hb := ext_trans hb hx; clear hx
    go_wp2_with fail
    refine (toSS_any _ _ _ _ h hn).mono ?_
    rintro e w1 ⟨R, r, rfl, r2, hx⟩
    replace s2 := r2.sl; replace h := h.ext hx; replace s1 := s1.ext hx; replace hb := ext_trans hb hx; clear hx
    go_wp2_with fail
    refine (eqSS_any _ _ _ _ _ _ _ s1 s2).mono ?_
    rintro e w1 ⟨rfl, hx⟩
    replace hb := ext_trans hb hx; clear hx
    rw [HS.out]
    go_wp2
    go_ret
    exact ⟨rfl, hb⟩
  · have HL := hd (lft_out hn)
    go_enter Try.func4, Try.ntmps4
    go_wp2_with fail
    refine (szS_any A _ c 1048576 w (by omega) (by decide) (by decide)).mono ?_
    rintro e w' ⟨rfl, rfl⟩
    rw [HL.out]
    go_wp2
    go_ret
    exact ⟨rfl, Below.refl _ _⟩
end Go.Proofs.Ytabemhjbpnnlpaa
