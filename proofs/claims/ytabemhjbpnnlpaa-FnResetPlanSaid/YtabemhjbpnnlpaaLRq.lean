/- The walk of laws.FnResetPlan. -/
import Derived.Test.YtabemhjbpnnlpaaLRp
namespace Go.Proofs.Ytabemhjbpnnlpaa
open Go.RowKit
set_option maxHeartbeats 1000000 in
theorem lawResetPlan (A : Option Addr) (n c : Nat) (w : World) (h : SlB w A n c) :
    Calls Try.prog 7 #[.slice A n c] w fun e w' => e = .returned (.bool true) ∧ Below w.heap.size w w' := by
  by_cases hn : 1048576 < n
  · go_enter Try.func7, Try.ntmps7
    go_wp2
    go_ret
    exact ⟨rfl, Below.refl _ _⟩
  · go_enter Try.func7, Try.ntmps7
    go_wp2_with fail
    refine (drawResetPlan_any A n c w h).mono ?_
    rintro e w1 ⟨B, B', d, d', xs, ys, rfl, s1, s2, hl1, hl2, hb⟩
    have HE := eqL_self (resetL xs ys)
    go_wp2_with fail
    refine (resetPlan_any _ _ _ _ _ _ _ s1 s2).mono ?_
    rintro e w1 ⟨P, p, rfl, r, hx⟩
    replace r := r.sl; replace s1 := s1.ext hx; replace s2 := s2.ext hx; replace hb := ext_trans hb hx; clear hx
    go_wp2_with fail
    refine (sResetPlan_any _ _ _ _ _ _ _ s1 s2).mono ?_
    rintro e w1 ⟨Q, q, rfl, t, hx⟩
    replace t := t.sl; replace r := r.ext hx; replace s1 := s1.ext hx; replace s2 := s2.ext hx; replace hb := ext_trans hb hx; clear hx
    go_wp2_with fail
    refine (equalSettings_any _ _ _ _ _ _ _ r t).mono ?_
    rintro e w1 ⟨rfl, hx⟩
    replace r := r.ext hx; replace s1 := s1.ext hx; replace s2 := s2.ext hx; replace hb := ext_trans hb hx; clear hx
    by_cases v1 : VS xs = true
    · by_cases v2 : VS ys = true
      · have hlen := resetL_bound v1 v2
        have HLB := hd (show decide (((resetL xs ys).length : Int) ≤ (xs.length : Int) + (ys.length : Int)) = true from decide_eq_true (by omega))
        have HA := hd (resetL_app v1 v2)
        have HE2 := eqL_self ys
        go_wp2_with fail
        refine (vs_any _ _ _ _ s1).mono ?_
        rintro e w1 ⟨rfl, hx⟩
        replace r := r.ext hx; replace s1 := s1.ext hx; replace s2 := s2.ext hx; replace hb := ext_trans hb hx; clear hx
        go_wp2_with fail
        refine (vs_any _ _ _ _ s2).mono ?_
        rintro e w1 ⟨rfl, hx⟩
        replace r := r.ext hx; replace s1 := s1.ext hx; replace s2 := s2.ext hx; replace hb := ext_trans hb hx; clear hx
        go_wp2_with fail
        have con := applySettings_any _ _ _ _ _ _ _ s1 r
        rw [HA.out] at con
        refine con.mono ?_
        rintro e w1 ⟨R, p', rfl, u, hx⟩
        clear con
        replace u : SlS w1 R p' ys := u.sl; replace r := r.ext hx; replace s1 := s1.ext hx; replace s2 := s2.ext hx; replace hb := ext_trans hb hx; clear hx
        simp only [Option.getD_some, Option.isSome_some]
        go_wp2_with fail
        refine (equalSettings_any _ _ _ _ _ _ _ u s2).mono ?_
        rintro e w1 ⟨rfl, hx⟩
        replace hb := ext_trans hb hx; clear hx
        go_wp2
        go_ret
        exact ⟨by rw [HLB.out]; rfl, hb⟩
      · have v2 : VS ys = false := by simpa using v2
        go_wp2_with fail
        refine (vs_any _ _ _ _ s1).mono ?_
        rintro e w1 ⟨rfl, hx⟩
        replace r := r.ext hx; replace s1 := s1.ext hx; replace s2 := s2.ext hx; replace hb := ext_trans hb hx; clear hx
        go_wp2_with fail
        refine (vs_any _ _ _ _ s2).mono ?_
        rintro e w1 ⟨rfl, hx⟩
        replace r := r.ext hx; replace s1 := s1.ext hx; replace s2 := s2.ext hx; replace hb := ext_trans hb hx; clear hx
        go_wp2_with fail
        refine (sResetPlan_any _ _ _ _ _ _ _ s1 s2).mono ?_
        rintro e w1 ⟨Q, q, rfl, t, hx⟩
        replace t := t.sl; replace r := r.ext hx; replace hb := ext_trans hb hx; clear hx
        go_wp2_with fail
        refine (equalSettings_any _ _ _ _ _ _ _ r t).mono ?_
        rintro e w1 ⟨rfl, hx⟩
        replace hb := ext_trans hb hx; clear hx
        go_wp2
        go_ret
        exact ⟨rfl, hb⟩
    · have v1 : VS xs = false := by simpa using v1
      go_wp2_with fail
      refine (vs_any _ _ _ _ s1).mono ?_
      rintro e w1 ⟨rfl, hx⟩
      replace r := r.ext hx; replace s1 := s1.ext hx; replace s2 := s2.ext hx; replace hb := ext_trans hb hx; clear hx
      go_wp2_with fail
      refine (sResetPlan_any _ _ _ _ _ _ _ s1 s2).mono ?_
      rintro e w1 ⟨Q, q, rfl, t, hx⟩
      replace t := t.sl; replace r := r.ext hx; replace hb := ext_trans hb hx; clear hx
      go_wp2_with fail
      refine (equalSettings_any _ _ _ _ _ _ _ r t).mono ?_
      rintro e w1 ⟨rfl, hx⟩
      replace hb := ext_trans hb hx; clear hx
      go_wp2
      go_ret
      exact ⟨rfl, hb⟩
end Go.Proofs.Ytabemhjbpnnlpaa
