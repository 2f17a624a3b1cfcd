/- The walk of laws.FnApplySettingsParts. -/
import Derived.Test.YtabemhjbpnnlpaaLAp
namespace Go.Proofs.Ytabemhjbpnnlpaa
open Go.RowKit
set_option maxHeartbeats 1000000 in
theorem lawApplySettingsParts (A : Option Addr) (n c : Nat) (w : World) (h : SlB w A n c) :
    Calls Try.prog 11 #[.slice A n c] w fun e w' => e = .returned (.bool true) ∧ Below w.heap.size w w' := by
  by_cases hn : 1048576 < n
  · go_enter Try.func11, Try.ntmps11
    go_wp2
    go_ret
    exact ⟨rfl, Below.refl _ _⟩
  · go_enter Try.func11, Try.ntmps11
    go_wp2_with fail
    refine (drawApplySettings_any A n c w h).mono ?_
    rintro e w1 ⟨B, B', d, d', xs, cs, rfl, s1, s2, hl1, hl2, hb⟩
    have hm2 := s2.max
    have hc2 := s2.cap
    unfold maxLen at hm2
    cases ho : appS xs cs with
    | some zs =>
      have HO := hd ho
      have HE := eqL_self zs
      by_cases h0 : cs.length = 0
      · have h0b : ((cs.length : Int) == 0) = true := beq_iff_eq.2 (by omega)
        clear ho h0
        go_wp2_with fail
        refine (app_yes HO.out s1 s2).mono ?_
        rintro e w1 ⟨P, p, rfl, r, hx⟩
        replace s1 := s1.ext hx; replace s2 := s2.ext hx; replace hb := ext_trans hb hx; clear hx
        go_wp2_with fail
        refine (sapp_yes HO.out s1 s2).mono ?_
        rintro e w1 ⟨Q, q, rfl, t, hx⟩
        replace r := r.ext hx; replace s1 := s1.ext hx; replace s2 := s2.ext hx; replace hb := ext_trans hb hx; clear hx
        go_wp2_with fail
        refine (equalSettings_any _ _ _ _ _ _ _ r t).mono ?_
        rintro e w1 ⟨rfl, hx⟩
        replace r := r.ext hx; replace t := t.ext hx; replace hb := ext_trans hb hx; clear hx
        go_wp2_with fail
        refine (equalSettings_any _ _ _ _ _ _ _ r t).mono ?_
        rintro e w1 ⟨rfl, hx⟩
        replace hb := ext_trans hb hx; clear hx
        go_wp2
        go_ret
        exact ⟨rfl, hb⟩
      · have h0b : ((cs.length : Int) == 0) = false := beq_eq_false_iff_ne.2 (by omega)
        obtain ⟨m, hm, hmk⟩ : ∃ m : Nat, (cs.length : Int) - 1 = (m : Int) ∧ m + 1 = cs.length := ⟨cs.length - 1, by omega, by omega⟩
        obtain ⟨ps, hp1, hp2⟩ := appS_parts ho m
        have HP1 := hd hp1
        have HP2 := hd hp2
        have HT1 := hd (show (cs.take m).length = m by rw [List.length_take]; omega)
        have HT2 := hd (show (cs.drop m).length = cs.length - m by rw [List.length_drop])
        have hmd : (m : Int) ≤ (d' : Int) := by omega
        have hml : (m : Int) ≤ (cs.length : Int) := by omega
        have hmk' : m ≤ cs.length := by omega
        have hdm : ¬ d' = m := by omega
        clear ho h0 hp1 hp2 hmk
        go_wp2_with fail
        refine (app_yes HO.out s1 s2).mono ?_
        rintro e w1 ⟨P, p, rfl, r, hx⟩
        replace s1 := s1.ext hx; replace s2 := s2.ext hx; replace hb := ext_trans hb hx; clear hx
        go_wp2_with fail
        refine (sapp_yes HO.out s1 s2).mono ?_
        rintro e w1 ⟨Q, q, rfl, t, hx⟩
        replace r := r.ext hx; replace s1 := s1.ext hx; replace s2 := s2.ext hx; replace hb := ext_trans hb hx; clear hx
        go_wp2_with fail
        refine (equalSettings_any _ _ _ _ _ _ _ r t).mono ?_
        rintro e w1 ⟨rfl, hx⟩
        replace r := r.ext hx; replace s1 := s1.ext hx; replace s2 := s2.ext hx; replace hb := ext_trans hb hx; clear hx
        clear t
        have ht := s2.take (m := m) hmk'
        go_wp2_with fail
        have con := app_yes (A' := B') (c' := d') HP1.out s1 (by unfold SlS; rw [HT1.out]; exact ht)
        rw [HT1.out] at con
        refine con.mono ?_
        clear con ht
        rintro e w1 ⟨U, u, rfl, t, hx⟩
        replace r := r.ext hx; replace s2 := s2.ext hx; replace hb := ext_trans hb hx; clear hx
        have hs := s2.drop (m := m) hmk'
        rw [if_neg hdm] at hs
        have HS := hd hs
        clear hs s1 s2
        go_wp2_with fail
        have con := app_yes (A' := Option.map (fun x => x.add (m * 2)) B') (c' := d' - m) HP2.out t (by unfold SlS; rw [HT2.out]; exact HS.out)
        rw [HT2.out] at con
        refine con.mono ?_
        clear con HS
        rintro e w1 ⟨V, v, rfl, t, hx⟩
        replace r := r.ext hx; replace hb := ext_trans hb hx; clear hx
        go_wp2_with fail
        refine (equalSettings_any _ _ _ _ _ _ _ t r).mono ?_
        rintro e w1 ⟨rfl, hx⟩
        replace hb := ext_trans hb hx; clear hx
        go_wp2
        go_ret
        exact ⟨rfl, hb⟩
    | none =>
      have HO := hd ho
      have HE := eqL_self []
      clear ho
      go_wp2_with fail
      refine (app_no HO.out s1 s2).mono ?_
      rintro e w1 ⟨P, p, rfl, r, hx⟩
      replace s1 := s1.ext hx; replace s2 := s2.ext hx; replace hb := ext_trans hb hx; clear hx
      go_wp2_with fail
      refine (sapp_no HO.out s1 s2).mono ?_
      rintro e w1 ⟨Q, q, rfl, t, hx⟩
      replace r := r.ext hx; replace s1 := s1.ext hx; replace s2 := s2.ext hx; replace hb := ext_trans hb hx; clear hx
      go_wp2_with fail
      refine (equalSettings_any _ _ _ _ [] [] _ r t).mono ?_
      rintro e w1 ⟨rfl, hx⟩
      replace r := r.ext hx; replace t := t.ext hx; replace hb := ext_trans hb hx; clear hx
      go_wp2_with fail
      refine (equalSettings_any _ _ _ _ [] [] _ r t).mono ?_
      rintro e w1 ⟨rfl, hx⟩
      replace hb := ext_trans hb hx; clear hx
      go_wp2
      go_ret
      exact ⟨rfl, hb⟩
end Go.Proofs.Ytabemhjbpnnlpaa
