/- The walk of laws.FnResetPlanShort. -/
import Derived.Test.YtabemhjbpnnlpaaLRp
import Derived.Deep.RegionHeld3
namespace Go.Proofs.Ytabemhjbpnnlpaa
open Go.RowKit
set_option maxHeartbeats 1000000 in
theorem lawResetPlanShort (A : Option Addr) (n c : Nat) (w : World) (h : SlB w A n c) :
    Calls Try.prog 8 #[.slice A n c] w fun e w' => e = .returned (.bool true) ∧ Below w.heap.size w w' := by
  have hmax := h.2.1
  have hcap := h.1
  unfold maxLen at hmax
  by_cases hn : 1048576 < n
  · go_enter Try.func8, Try.ntmps8
    go_wp2
    go_ret
    exact ⟨rfl, Below.refl _ _⟩
  · go_enter Try.func8, Try.ntmps8
    go_wp2_with fail
    refine (drawResetPlan_any A n c w h).mono ?_
    rintro e w1 ⟨B, B', d, d', xs, ys, rfl, s1, s2, hl1, hl2, hb⟩
    have HE := eqL_self (resetL xs ys)
    go_wp2_with fail
    refine (resetPlan_any _ _ _ _ _ _ _ s1 s2).mono ?_
    rintro e w1 ⟨P, p, rfl, r, hx⟩
    replace r := r.sl; replace s1 := s1.ext hx; replace s2 := s2.ext hx; replace hb := ext_trans hb hx; clear hx
    go_wp2_with fail
    refine (sResetPlan_any _ _ _ _ _ _ _ s1 s2).mono ?_
    rintro e w1 ⟨Q, q, rfl, t, hx⟩
    replace t := t.sl; replace r := r.ext hx; replace s1 := s1.ext hx; replace s2 := s2.ext hx; replace hb := ext_trans hb hx; clear hx
    go_wp2_with fail
    refine (equalSettings_any _ _ _ _ _ _ _ r t).mono ?_
    rintro e w1 ⟨rfl, hx⟩
    replace r := r.ext hx; replace s1 := s1.ext hx; replace s2 := s2.ext hx; replace hb := ext_trans hb hx; clear hx
    clear t
    by_cases h0 : (resetL xs ys).length = 0
    · have h0b : (((resetL xs ys).length : Int) == 0) = true := beq_iff_eq.2 (by omega)
      clear h0
      go_wp2_with fail
      refine (sResetPlan_any _ _ _ _ _ _ _ s1 s2).mono ?_
      rintro e w1 ⟨Q, q, rfl, t, hx⟩
      replace t := t.sl; replace r := r.ext hx; replace hb := ext_trans hb hx; clear hx
      go_wp2_with fail
      refine (equalSettings_any _ _ _ _ _ _ _ r t).mono ?_
      rintro e w1 ⟨rfl, hx⟩
      replace hb := ext_trans hb hx; clear hx
      go_wp2
      go_ret
      exact ⟨rfl, hb⟩
    · have h0b : (((resetL xs ys).length : Int) == 0) = false := beq_eq_false_iff_ne.2 (by omega)
      obtain ⟨v1, v2⟩ := resetL_vs (xs := xs) (ys := ys) (fun e => h0 (by rw [e]; rfl))
      have hl10 := resetL_len xs ys
      obtain ⟨k, hk, hkl⟩ : ∃ k : Nat, (n : Int) % ((resetL xs ys).length : Int) = (k : Int) ∧ k < (resetL xs ys).length := ⟨n % (resetL xs ys).length, (Int.natCast_emod n (resetL xs ys).length).symm, Nat.mod_lt n (Nat.pos_of_ne_zero h0)⟩
      obtain ⟨us, hA, hne⟩ := resetL_without v1 v2 hkl
      obtain ⟨zs, hzs⟩ : ∃ zs, zs = (resetL xs ys).take k ++ (resetL xs ys).drop (k + 1) := ⟨_, rfl⟩
      rw [← hzs] at hA
      have HA := hd hA
      have HL := hd (show 0 + k + ((resetL xs ys).length - (k + 1)) = zs.length by rw [hzs, List.length_append, List.length_take, List.length_drop]; omega)
      have HC := hd (show [] ++ cst ((resetL xs ys).take k) ++ cst ((resetL xs ys).drop (k + 1)) = cst zs by rw [hzs, cst_append]; rfl)
      have HN : eqL us ys = false := decide_eq_false hne
      obtain ⟨P', hP', hsd⟩ := r.dropE (m := k + 1) (by omega)
      have H2 := hd hsd
      have H1 := hd (show Sl ((w1.alloc (.cells #[] 40)).drew) 2 P k p (cst ((resetL xs ys).take k)) from (r.take (m := k) (by omega)).alloc _)
      have H0 := hd (show ((w1.alloc (.cells #[] 40)).drew).ownsRow w1.heap.size 40 2 (.slice (some ⟨w1.heap.size, 0, none⟩) 0 0) 0 [] from own_made w1 _ 2 [] 0 rfl (by decide))
      have hrm := r.max
      have hrc := r.cap
      unfold maxLen at hrm
      have hkl1 : (k : Int) + 1 ≤ ((resetL xs ys).length : Int) := by omega
      have hkc : (k : Int) ≤ (p : Int) := by omega
      have hkd : (k : Int) + 1 ≤ (p : Int) := by omega
      have hk0 : (0 : Int) ≤ (k : Int) + 1 := by omega
      have hkt : ((k : Int) + 1).toNat = k + 1 := by omega
      have hkw : IntKind.i64.wrap ((k : Int) + 1) = (k : Int) + 1 := by rw [IntKind.wrap_i64]; omega
      clear h0 hne hzs hA hsd
      go_wp2_with fail
      go_region_held3 (fun _ => True) (trivial) (first
        | ((refine step_apps eltS (.tmp 43) (.tmp 46) H0.out H1.out (cst_one _) (by omega) (by omega) (by simp) (by rfl) (by rfl) (by rfl) (by rfl) ?_; intro v1' w5 hown1 hg1; have hx5 : Below w1.heap.size w1 w5 := ((Below.refl _ _).alloc (Nat.le_refl _) _).drew.grown hg1 (by simp) (by intro k hk; simp [Value.ownBlock] at hk; omega)))
        | ((refine step_apps eltS (.tmp 47) (.tmp 51) hown1 (H2.out.ext hx5) (cst_one _) (by omega) (by omega) (by exact hx5.size) (by rfl) (by rfl) (by rfl) (by rfl) ?_; intro v2' w6 hown2 hg2; obtain ⟨A2, c2, rfl, hs6, _⟩ := slS_of_own hown2 HC.out HL.out; have hx6 : Below w1.heap.size w1 w6 := hx5.grown hg2 hx5.size (own_ge hown1)))
        | (go_at_call 28; have con := applySettings_any _ _ _ _ _ _ _ (s1.ext hx6) hs6; rw [HA.out] at con; refine con.mono ?_; clear con; rintro e w7 ⟨R, p', rfl, u, hx7⟩; simp only [Option.getD_some, Option.isSome_some]))
      replace u : SlS w7 R p' us := u.sl
      have hx := ext_trans hx6 hx7
      replace s2 := s2.ext hx
      replace hb := ext_trans hb hx
      clear hx
      go_wp2_with fail
      refine (equalSettings_any _ _ _ _ _ _ _ u s2).mono ?_
      rintro e w1 ⟨rfl, hx⟩
      replace hb := ext_trans hb hx; clear hx
      go_wp2
      go_ret
      exact ⟨rfl, hb⟩
end Go.Proofs.Ytabemhjbpnnlpaa
