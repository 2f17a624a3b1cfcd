/- The walks of laws.FnResetPlanNone, laws.FnResetPlan. -/
import Derived.Test.YtabemhjbpnnlpaaWAi
import Derived.Test.YtabemhjbpnnlpaaWEq
import Derived.Test.YtabemhjbpnnlpaaDrS
namespace Go.Proofs.Ytabemhjbpnnlpaa
open Go.RowKit
theorem eqL_self (xs : List St) : eqL xs xs = true := decide_eq_true rfl
set_option maxHeartbeats 1000000 in
theorem lawResetPlanNone (A : Option Addr) (n c : Nat) (w : World) (h : SlB w A n c) :
    Calls Try.prog 5 #[.slice A n c] w fun e w' => e = .returned (.bool true) ∧ Below w.heap.size w w' := by
  by_cases hn : 1048576 < n
  · go_enter Try.func5, Try.ntmps5
    go_wp2
    go_ret
    exact ⟨rfl, Below.refl _ _⟩
  · go_enter Try.func5, Try.ntmps5
    go_wp2_with fail
    refine (drawResetPlan_any A n c w h).mono ?_
    rintro e w1 ⟨B, B', d, d', xs, ys, rfl, s1, s2, hl1, hl2, hb⟩
    have HE := eqL_self (resetL xs ys)
    go_wp2_with fail
    refine (resetPlan_any _ _ _ _ _ _ _ s1 s2).mono ?_
    rintro e w1 ⟨P, p, rfl, r, hx⟩
    replace r := r.sl; replace s1 := s1.ext hx; replace s2 := s2.ext hx; replace hb := ext_trans hb hx; clear hx
    go_wp2_with fail
    refine (sResetPlan_any _ _ _ _ _ _ _ s1 s2).mono ?_
    rintro e w1 ⟨Q, q, rfl, t, hx⟩
    replace t := t.sl; replace r := r.ext hx; replace s1 := s1.ext hx; replace s2 := s2.ext hx; replace hb := ext_trans hb hx; clear hx
    go_wp2_with fail
    refine (equalSettings_any _ _ _ _ _ _ _ r t).mono ?_
    rintro e w1 ⟨rfl, hx⟩
    clear t
    replace r := r.ext hx; replace s1 := s1.ext hx; replace s2 := s2.ext hx; replace hb := ext_trans hb hx; clear hx
    by_cases v1 : VS xs = true
    · by_cases v2 : VS ys = true
      · have hN := resetL_nil v1 v2
        have hS := hd (resetL_sym xs ys)
        have HC : Hid ((((resetL xs ys).length : Int) == 0) = eqL xs ys) := by
          unfold eqL
          by_cases e : xs = ys
          · have := hN.2 e
            rw [decide_eq_true e, this]; rfl
          · have h0 : ¬ (resetL xs ys).length = 0 := fun h0 => e (hN.1 (List.eq_nil_of_length_eq_zero h0))
            rw [decide_eq_false e]
            exact beq_eq_false_iff_ne.2 (by omega)
        have HB : (((resetL ys xs).length : Int) == ((resetL xs ys).length : Int)) = true := by rw [hS.out]; simp
        clear hN
        go_wp2_with fail
        refine (vs_any _ _ _ _ s1).mono ?_
        rintro e w1 ⟨rfl, hx⟩
        replace r := r.ext hx; replace s1 := s1.ext hx; replace s2 := s2.ext hx; replace hb := ext_trans hb hx; clear hx
        go_wp2_with fail
        refine (vs_any _ _ _ _ s2).mono ?_
        rintro e w1 ⟨rfl, hx⟩
        replace r := r.ext hx; replace s1 := s1.ext hx; replace s2 := s2.ext hx; replace hb := ext_trans hb hx; clear hx
        go_wp2_with fail
        refine (equalSettings_any _ _ _ _ _ _ _ s1 s2).mono ?_
        rintro e w1 ⟨rfl, hx⟩
        replace r := r.ext hx; replace s1 := s1.ext hx; replace s2 := s2.ext hx; replace hb := ext_trans hb hx; clear hx
        rw [← HC.out]
        go_wp2_with fail
        refine (resetPlan_any _ _ _ _ _ _ _ s2 s1).mono ?_
        rintro e w1 ⟨R, p', rfl, _, hx⟩
        replace hb := ext_trans hb hx; clear hx
        go_wp2
        go_ret
        exact ⟨rfl, hb⟩
      · have v2 : VS ys = false := by simpa using v2
        go_wp2_with fail
        refine (vs_any _ _ _ _ s1).mono ?_
        rintro e w1 ⟨rfl, hx⟩
        replace r := r.ext hx; replace s1 := s1.ext hx; replace s2 := s2.ext hx; replace hb := ext_trans hb hx; clear hx
        go_wp2_with fail
        refine (vs_any _ _ _ _ s2).mono ?_
        rintro e w1 ⟨rfl, hx⟩
        replace r := r.ext hx; replace s1 := s1.ext hx; replace s2 := s2.ext hx; replace hb := ext_trans hb hx; clear hx
        go_wp2_with fail
        refine (sResetPlan_any _ _ _ _ _ _ _ s1 s2).mono ?_
        rintro e w1 ⟨Q, q, rfl, t, hx⟩
        replace t := t.sl; replace r := r.ext hx; replace hb := ext_trans hb hx; clear hx
        go_wp2_with fail
        refine (equalSettings_any _ _ _ _ _ _ _ r t).mono ?_
        rintro e w1 ⟨rfl, hx⟩
        replace hb := ext_trans hb hx; clear hx
        go_wp2
        go_ret
        exact ⟨rfl, hb⟩
    · have v1 : VS xs = false := by simpa using v1
      go_wp2_with fail
      refine (vs_any _ _ _ _ s1).mono ?_
      rintro e w1 ⟨rfl, hx⟩
      replace r := r.ext hx; replace s1 := s1.ext hx; replace s2 := s2.ext hx; replace hb := ext_trans hb hx; clear hx
      go_wp2_with fail
      refine (sResetPlan_any _ _ _ _ _ _ _ s1 s2).mono ?_
      rintro e w1 ⟨Q, q, rfl, t, hx⟩
      replace t := t.sl; replace r := r.ext hx; replace hb := ext_trans hb hx; clear hx
      go_wp2_with fail
      refine (equalSettings_any _ _ _ _ _ _ _ r t).mono ?_
      rintro e w1 ⟨rfl, hx⟩
      replace hb := ext_trans hb hx; clear hx
      go_wp2
      go_ret
      exact ⟨rfl, hb⟩
end Go.Proofs.Ytabemhjbpnnlpaa
