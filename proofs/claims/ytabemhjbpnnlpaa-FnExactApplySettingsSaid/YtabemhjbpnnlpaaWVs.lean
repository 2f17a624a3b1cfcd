/- Contracts: impl.ValidSettings, spec.validSettings, spec.ValidSettings. -/
import Derived.Test.YtabemhjbpnnlpaaW1
import Derived.Test.YtabemhjbpnnlpaaPSet
import Derived.BigGuardPart
import Derived.Deep.QuietTactic
import Derived.BigQuiet
namespace Go.Proofs.Ytabemhjbpnnlpaa
open Go.RowKit
theorem vset_no1 {q : Int} {xs : List St} {k : Nat} (h : k < xs.length) (h1 : inB xs[k].1 (q + 1) 9 = false) : vset q (xs.drop k) = false := by
  rw [vset_drop q xs k h]; simp only [inB] at h1; rw [h1]; rfl
theorem vset_no2 {q : Int} {xs : List St} {k : Nat} (h : k < xs.length) (h2 : inB xs[k].2 0 20 = false) : vset q (xs.drop k) = false := by
  rw [vset_drop q xs k h]; simp only [inB] at h2; rw [h2]; simp
theorem vset_yes {q : Int} {xs : List St} {k : Nat} (h : k < xs.length) (h1 : inB xs[k].1 (q + 1) 9 = true) (h2 : inB xs[k].2 0 20 = true) : vset q (xs.drop k) = vset xs[k].1 (xs.drop (k + 1)) := by
  rw [vset_drop q xs k h]; simp only [inB] at h1 h2; rw [h1, h2]; rfl
set_option maxHeartbeats 400000 in
theorem vs_any (A : Option Addr) (c : Nat) (xs : List St) (w : World) (h : SlS w A c xs) :
    Calls Try.prog 17 #[.slice A xs.length c] w fun e w' => e = .returned (.bool (VS xs)) ∧ Below w.heap.size w w' := by
  have hmax := h.max
  have hcap := h.cap
  unfold maxLen at hmax
  go_enter Try.func17, Try.ntmps17
  go_wp2
  go_loopw [3, 8] (fun l i wr => ∃ (k : Nat) (q : Int), k ≤ xs.length ∧ i = .int .i64 k ∧ l = .int .i64 q ∧ -1 ≤ q ∧ q ≤ 9 ∧ Hid (VS xs = vset q (xs.drop k)) ∧ Below w.heap.size w wr) (fun _ i _ => xs.length - (intOf i).toNat)
  case atStart => exact ⟨0, -1, Nat.zero_le _, rfl, rfl, by omega, by omega, rfl, Below.refl _ _⟩
  case round =>
    obtain ⟨k, q, hk, rfl, rfl, hq1, hq2, HV, hb⟩ := hrel
    by_cases hlt : k < xs.length
    · obtain ⟨ad, rfl, hbl, hc0, hc1⟩ := (h.ext hb).at hlt
      by_cases h1 : inB xs[k].1 (q + 1) 9 = true
      · have b1 := inB_iff.1 h1
        by_cases h2 : inB xs[k].2 0 20 = true
        · have HV' := hd (HV.out.trans (vset_yes hlt h1 h2))
          go_wp2_with (go_at_call 37; refine (in_any _ _ _ _).mono ?_; rintro e w' ⟨rfl, rfl⟩)
          go_roundw
          case rel => exact ⟨k + 1, _, by omega, by go_num, rfl, by omega, b1.2, HV', hb.alloc hb.size _⟩
          case measure => simp [intOf]; omega
        · have h2 : inB xs[k].2 0 20 = false := by simpa using h2
          have HV' := hd (HV.out.trans (vset_no2 hlt h2))
          go_wp2_with (go_at_call 37; refine (in_any _ _ _ _).mono ?_; rintro e w' ⟨rfl, rfl⟩)
          go_ret
          exact ⟨by rw [HV'.out]; rfl, hb.alloc hb.size _⟩
      · have h1 : inB xs[k].1 (q + 1) 9 = false := by simpa using h1
        have HV' := hd (HV.out.trans (vset_no1 hlt h1))
        go_wp2_with (go_at_call 37; refine (in_any _ _ _ _).mono ?_; rintro e w' ⟨rfl, rfl⟩)
        go_ret
        exact ⟨by rw [HV'.out]; rfl, hb.alloc hb.size _⟩
    · obtain rfl : k = xs.length := by omega
      have HV' := hd (HV.out.trans (vset_done q xs))
      go_wp2
      go_ret
      exact ⟨by rw [HV'.out]; rfl, hb⟩

/-- The name before place k. -/
def prv (xs : List St) (k : Nat) : Int := if k = 0 then -1 else (xs.getD (k - 1) (0, 0)).1
theorem prv_zero (xs : List St) : prv xs 0 = -1 := rfl
theorem prv_succ (xs : List St) (k : Nat) (h : k < xs.length) : prv xs (k + 1) = xs[k].1 := by simp [prv, h]
theorem vset_no3 {xs : List St} {k : Nat} (h : k < xs.length) (h1 : xs[k].1 ≤ prv xs k) : vset (prv xs k) (xs.drop k) = false := by
  rw [vset_drop _ xs k h]
  have : ¬ (prv xs k + 1 ≤ xs[k].1 ∧ xs[k].1 ≤ 9) := by omega
  simp [this]
theorem vset_no1' {q : Int} {xs : List St} {k : Nat} (hq : -1 ≤ q) (h : k < xs.length) (h1 : inB xs[k].1 0 9 = false) : vset q (xs.drop k) = false := by
  rw [vset_drop q xs k h]
  have : ¬ (q + 1 ≤ xs[k].1 ∧ xs[k].1 ≤ 9) := by
    intro ⟨a, b⟩
    rw [inB_true (by omega) b] at h1
    cases h1
  simp [this]
set_option maxHeartbeats 400000 in
theorem svs_any (A : Option Addr) (c : Nat) (xs : List St) (w : World) (h : SlS w A c xs) :
    Calls Try.prog 38 #[.slice A xs.length c] w fun e w' => e = .returned (.bool (VS xs)) ∧ Below w.heap.size w w' := by
  have hmax := h.max
  have hcap := h.cap
  unfold maxLen at hmax
  go_enter Try.func38, Try.ntmps38
  go_wp2
  go_loopw [3] (fun i wr => ∃ (k : Nat), k ≤ xs.length ∧ i = .int .i64 k ∧ -1 ≤ prv xs k ∧ prv xs k ≤ 9 ∧ Hid (VS xs = vset (prv xs k) (xs.drop k)) ∧ Below w.heap.size w wr) (fun i _ => xs.length - (intOf i).toNat)
  case atStart => exact ⟨0, Nat.zero_le _, rfl, by simp [prv], by simp [prv], rfl, Below.refl _ _⟩
  case round =>
    obtain ⟨k, hk, rfl, hq1, hq2, HV, hb⟩ := hrel
    by_cases hlt : k < xs.length
    · obtain ⟨ad, rfl, hbl, hc0, hc1⟩ := (h.ext hb).at hlt
      by_cases h1 : inB xs[k].1 0 9 = true
      · have b1 := inB_iff.1 h1
        by_cases h2 : inB xs[k].2 0 20 = true
        · by_cases h0 : k = 0
          · have hp0 : prv xs k = -1 := by rw [h0]; rfl
            have HV' := hd (HV.out.trans (vset_yes hlt (inB_true (by rw [hp0]; omega) b1.2) h2))
            have HP := hd (prv_succ xs k hlt)
            have g0 : decide ((0 : Int) < (k : Int)) = false := by simp; omega
            have g1 : decide (0 < k) = false := by simp; omega
            clear h0 hp0
            go_wp2_with fail
            go_quiet ((go_at_call 47; exact Calls.quiet_of_same (inr_q _ _ _ _)))
            go_wp2
            go_roundw
            case rel => exact ⟨k + 1, by omega, by go_num, by rw [HP.out]; omega, by rw [HP.out]; omega, by rw [HP.out]; exact HV', below_drewN hb _⟩
            case measure => simp [intOf]; omega
          · obtain ⟨_, e1, _, hp0, _⟩ := (h.ext hb).at (i := k - 1) (by omega)
            injection e1 with e1
            subst e1
            have hpk : prv xs k = (xs[k - 1]).1 := by simp [prv, h0, List.getD_eq_getElem?_getD, List.getElem?_eq_getElem (show k - 1 < xs.length by omega)]
            have g0 : decide ((0 : Int) < (k : Int)) = true := by simp; omega
            have g1 : decide (0 < k) = true := by simp; omega
            by_cases h3 : xs[k].1 ≤ (xs[k - 1]).1
            · have HV' := hd (HV.out.trans (vset_no3 hlt (by rw [hpk]; exact h3)))
              clear hpk
              go_wp2_with fail
              go_quiet ((go_at_call 47; exact Calls.quiet_of_same (inr_q _ _ _ _)))
              go_wp2
              go_ret
              exact ⟨by rw [HV'.out]; rfl, below_drewN hb _⟩
            · have HV' := hd (HV.out.trans (vset_yes hlt (inB_true (by rw [hpk]; omega) b1.2) h2))
              have HP := hd (prv_succ xs k hlt)
              clear hpk
              go_wp2_with fail
              go_quiet ((go_at_call 47; exact Calls.quiet_of_same (inr_q _ _ _ _)))
              go_wp2
              go_roundw
              case rel => exact ⟨k + 1, by omega, by go_num, by rw [HP.out]; omega, by rw [HP.out]; omega, by rw [HP.out]; exact HV', below_drewN hb _⟩
              case measure => simp [intOf]; omega
        · have h2 : inB xs[k].2 0 20 = false := by simpa using h2
          have HV' := hd (HV.out.trans (vset_no2 hlt h2))
          go_wp2_with fail
          go_quiet ((go_at_call 47; exact Calls.quiet_of_same (inr_q _ _ _ _)))
          go_wp2
          go_ret
          exact ⟨by rw [HV'.out]; rfl, below_drewN hb _⟩
      · have h1 : inB xs[k].1 0 9 = false := by simpa using h1
        have HV' := hd (HV.out.trans (vset_no1' hq1 hlt h1))
        go_wp2_with fail
        go_quiet ((go_at_call 47; exact Calls.quiet_of_same (inr_q _ _ _ _)))
        go_wp2
        go_ret
        exact ⟨by rw [HV'.out]; rfl, below_drewN hb _⟩
    · obtain rfl : k = xs.length := by omega
      have HV' := hd (HV.out.trans (vset_done _ xs))
      go_wp2
      go_ret
      exact ⟨by rw [HV'.out]; rfl, hb⟩
set_option maxHeartbeats 400000 in
theorem sVS_any (A : Option Addr) (c : Nat) (xs : List St) (w : World) (h : SlS w A c xs) :
    Calls Try.prog 18 #[.slice A xs.length c] w fun e w' => e = .returned (.bool (VS xs)) ∧ Below w.heap.size w w' := by
  go_enter Try.func18, Try.ntmps18
  go_wp2_with fail
  refine (svs_any A c xs w h).mono ?_
  rintro e w' ⟨rfl, hb⟩
  go_wp2
  go_ret
  exact ⟨rfl, hb⟩
end Go.Proofs.Ytabemhjbpnnlpaa
