/- Contracts: impl.ValidHosts and what it calls, spec.validHosts, spec.ValidHosts. -/
import Derived.Test.YtbpadfeplmmeeaaPHo
import Derived.BigGuardPart
import Derived.Deep.QuietTactic
import Derived.BigQuiet
namespace Go.Proofs.Ytbpadfeplmmeeaa
open Go.RowKit
set_option maxHeartbeats 400000 in
theorem isTime_any (n : Int) (w : World) : Calls Try.prog 38 #[.int .i64 n] w fun e w' => e = .returned (.bool (inB n 0 1000)) ∧ w = w' := by
  go_enter Try.func38, Try.ntmps38
  go_wp2_with fail
  refine (in_any _ _ _ _).mono ?_
  rintro e w' ⟨rfl, rfl⟩
  go_wp2
  go_ret
  exact ⟨rfl, rfl⟩
theorem isTime_q (n : Int) (w : World) : Calls Try.prog 38 #[.int .i64 n] w fun e w' => e = .returned (.bool (inB n 0 1000)) ∧ w' = w := (isTime_any n w).mono fun _ _ h => ⟨h.1, h.2.symm⟩
set_option maxHeartbeats 400000 in
theorem vh1_any (a b : Int) (d : Bool) (w : World) : Calls Try.prog 37 #[.agg #[.int .i64 a, .int .i64 b, .bool d]] w fun e w' => e = .returned (.bool (!okH (a, b, d))) ∧ Below w.heap.size w w' := by
  by_cases h1 : inB a 0 100 = true
  · by_cases h2 : inB b 0 1000 = true
    · have e1 := hd (show okH (a, b, d) = true by simp only [okH, h1, h2, Bool.and_self])
      go_enter Try.func37, Try.ntmps37
      go_wp2_with (first | (go_at_call 32; refine (in_any _ _ _ _).mono ?_; rintro e w' ⟨rfl, rfl⟩) | (go_at_call 38; refine (isTime_any _ _).mono ?_; rintro e w' ⟨rfl, rfl⟩))
      go_ret
      exact ⟨by rw [e1.out]; rfl, ext_alloc (Below.refl _ _) _⟩
    · have h2 : inB b 0 1000 = false := by simpa using h2
      have e1 := hd (show okH (a, b, d) = false by simp only [okH, h1, h2, Bool.and_false])
      go_enter Try.func37, Try.ntmps37
      go_wp2_with (first | (go_at_call 32; refine (in_any _ _ _ _).mono ?_; rintro e w' ⟨rfl, rfl⟩) | (go_at_call 38; refine (isTime_any _ _).mono ?_; rintro e w' ⟨rfl, rfl⟩))
      go_ret
      exact ⟨by rw [e1.out]; rfl, ext_alloc (Below.refl _ _) _⟩
  · have h1 : inB a 0 100 = false := by simpa using h1
    have e1 := hd (show okH (a, b, d) = false by simp only [okH, h1, Bool.false_and])
    go_enter Try.func37, Try.ntmps37
    go_wp2_with (first | (go_at_call 32; refine (in_any _ _ _ _).mono ?_; rintro e w' ⟨rfl, rfl⟩) | (go_at_call 38; refine (isTime_any _ _).mono ?_; rintro e w' ⟨rfl, rfl⟩))
    go_ret
    exact ⟨by rw [e1.out]; rfl, ext_alloc (Below.refl _ _) _⟩
/-- What IndexFunc leaves. -/
def Idx (xs : List Ho) (w : World) (e : Ending) (w' : World) : Prop :=
  ∃ r : Int, e = .returned (.int .i64 r) ∧ decide (0 ≤ r) = !(xs.all okH) ∧ Below w.heap.size w w'
set_option maxHeartbeats 400000 in
theorem ixH_any (A : Option Addr) (c : Nat) (xs : List Ho) (w : World) (h : SlH w A c xs) :
    Calls Try.prog 49 #[.slice A xs.length c, .func (.func 37) #[] #[]] w (Idx xs w) := by
  have hmax := h.max
  have hcap := h.cap
  unfold maxLen at hmax
  go_enter Try.func49, Try.ntmps49
  go_wp2
  go_loopw [5, 8] (fun _ i wr => ∃ (k : Nat), k ≤ xs.length ∧ i = .int .i64 k ∧ Hid (xs.all okH = (xs.drop k).all okH) ∧ Below w.heap.size w wr) (fun _ i _ => xs.length - (intOf i).toNat)
  case atStart => exact ⟨0, Nat.zero_le _, rfl, rfl, Below.refl _ _⟩
  case round =>
    obtain ⟨k, hk, rfl, HV, hb⟩ := hrel
    by_cases hlt : k < xs.length
    · obtain ⟨ad, rfl, hbl, hc0, hc1, hc2⟩ := (h.ext hb).at hlt
      cases h1 : okH xs[k] with
      | true =>
        have HV' := hd (HV.out.trans (okH_yes hlt h1))
        have h1 : okH (xs[k].1, xs[k].2.1, xs[k].2.2) = true := h1
        go_wp2_with (go_at_call 37; refine (vh1_any _ _ _ _).mono ?_; rintro e w' ⟨rfl, hx⟩)
        go_roundw
        case rel => exact ⟨k + 1, by omega, by go_num, HV', ext_trans hb hx⟩
        case measure => simp [intOf]; omega
      | false =>
        have HV' := hd (HV.out.trans (okH_no hlt h1))
        have h1 : okH (xs[k].1, xs[k].2.1, xs[k].2.2) = false := h1
        go_wp2_with (go_at_call 37; refine (vh1_any _ _ _ _).mono ?_; rintro e w' ⟨rfl, hx⟩)
        go_ret
        exact ⟨_, rfl, by rw [HV'.out]; exact decide_eq_true (by omega), ext_trans hb hx⟩
    · obtain rfl : k = xs.length := by omega
      have HV' := hd (HV.out.trans (okH_done xs))
      go_wp2
      go_ret
      exact ⟨_, rfl, by rw [HV'.out]; rfl, hb⟩
set_option maxHeartbeats 400000 in
theorem cfH_any (A : Option Addr) (c : Nat) (xs : List Ho) (w : World) (h : SlH w A c xs) :
    Calls Try.prog 36 #[.slice A xs.length c, .func (.func 37) #[] #[]] w fun e w' => e = .returned (.bool (!(xs.all okH))) ∧ Below w.heap.size w w' := by
  go_enter Try.func36, Try.ntmps36
  go_wp2_with fail
  refine (ixH_any A c xs w h).mono ?_
  rintro e w' ⟨r, rfl, hr, hb⟩
  have HR := hd hr
  clear hr
  go_wp2
  go_ret
  exact ⟨by rw [← HR.out]; rfl, hb⟩
set_option maxHeartbeats 400000 in
theorem vh_any (A : Option Addr) (c : Nat) (xs : List Ho) (w : World) (h : SlH w A c xs) :
    Calls Try.prog 14 #[.slice A xs.length c] w fun e w' => e = .returned (.bool (VH xs)) ∧ Below w.heap.size w w' := by
  have hmax := h.max
  have hcap := h.cap
  unfold maxLen at hmax
  cases h1 : inB (xs.length : Int) 1 5 with
  | true =>
    have hl := inB_iff.1 h1
    obtain ⟨ad, rfl, hbl, hc0, hc1, hc2⟩ := h.at0 (by omega)
    have l0 := lag0_at (xs := xs) (by omega)
    cases h2 : (xs[0].2.1 == 0) with
    | true =>
      have HV := hd (show VH xs = xs.all okH by simp only [VH, h1, l0, h2, Bool.true_and])
      clear l0
      go_enter Try.func14, Try.ntmps14
      go_wp2_with (first | (go_at_call 32; refine (in_any _ _ _ _).mono ?_; rintro e w' ⟨rfl, rfl⟩) | (go_at_call 36; refine (cfH_any _ c xs _ h).mono ?_; rintro e w' ⟨rfl, hx⟩))
      go_ret
      exact ⟨by rw [HV.out]; simp, hx⟩
    | false =>
      have HV := hd (show VH xs = false by simp only [VH, h1, l0, h2, Bool.true_and, Bool.false_and])
      clear l0
      go_enter Try.func14, Try.ntmps14
      go_wp2_with (first | (go_at_call 32; refine (in_any _ _ _ _).mono ?_; rintro e w' ⟨rfl, rfl⟩) | (go_at_call 36; refine (cfH_any _ c xs _ h).mono ?_; rintro e w' ⟨rfl, hx⟩))
      go_ret
      exact ⟨by rw [HV.out]; rfl, Below.refl _ _⟩
  | false =>
    have HV := hd (show VH xs = false by simp only [VH, h1, Bool.false_and])
    go_enter Try.func14, Try.ntmps14
    go_wp2_with (go_at_call 32; refine (in_any _ _ _ _).mono ?_; rintro e w' ⟨rfl, rfl⟩)
    go_ret
    exact ⟨by rw [HV.out]; rfl, Below.refl _ _⟩
theorem vhN_any (A : Option Addr) (n c : Nat) (xs : List Ho) (w : World) (h : SlH w A c xs) (hn : n = xs.length) :
    Calls Try.prog 14 #[.slice A n c] w fun e w' => e = .returned (.bool (VH xs)) ∧ Below w.heap.size w w' := by
  subst hn; exact vh_any A c xs w h
set_option maxHeartbeats 400000 in
theorem svh_any (A : Option Addr) (c : Nat) (xs : List Ho) (w : World) (h : SlH w A c xs) :
    Calls Try.prog 34 #[.slice A xs.length c] w fun e w' => e = .returned (.bool (VH xs)) ∧ Below w.heap.size w w' := by
  have hmax := h.max
  have hcap := h.cap
  unfold maxLen at hmax
  go_enter Try.func34, Try.ntmps34
  go_wp2
  go_loopw [3] (fun i wr => ∃ (k : Nat), k ≤ xs.length ∧ i = .int .i64 k ∧ Hid (xs.all okH = (xs.drop k).all okH) ∧ Hid (0 < k → lag0 xs = true) ∧ Below w.heap.size w wr) (fun i _ => xs.length - (intOf i).toNat)
  case atStart => exact ⟨0, Nat.zero_le _, rfl, rfl, fun h => absurd h (by omega), Below.refl _ _⟩
  case round =>
    obtain ⟨k, hk, rfl, HV, HL, hb⟩ := hrel
    by_cases hlt : k < xs.length
    · obtain ⟨ad, rfl, hbl, hc0, hc1, hc2⟩ := (h.ext hb).at hlt
      cases h1 : inB xs[k].1 0 100 with
      | true =>
        cases h2 : inB xs[k].2.1 0 1000 with
        | true =>
          have HV' := hd (HV.out.trans (okH_yes hlt (by simp only [okH, h1, h2, Bool.and_self])))
          by_cases h0 : k = 0
          · have l0 : lag0 xs = (xs[k].2.1 == 0) := by subst h0; exact lag0_at hlt
            have g0 : ((k : Int) == 0) = true := by simp [h0]
            have g1 : (k == 0) = true := by simp [h0]
            cases h3 : (xs[k].2.1 == 0) with
            | true =>
              have h4 : (xs[k].2.1 != 0) = false := by rw [bne, h3]; rfl
              have HL' := hd (show 0 < k + 1 → lag0 xs = true from fun _ => by rw [l0, h3])
              clear l0 h0
              go_wp2_with (go_at_call 35; refine (inr_any _ _ _ _).mono ?_; rintro e w1 ⟨rfl, rfl⟩)
              go_roundw
              case rel => exact ⟨k + 1, by omega, by go_num, HV', HL', hb⟩
              case measure => simp [intOf]; omega
            | false =>
              have h4 : (xs[k].2.1 != 0) = true := by rw [bne, h3]; rfl
              have HL' := hd (show VH xs = false by simp only [VH, l0, h3, Bool.false_and, Bool.and_false])
              clear l0 h0
              go_wp2_with (go_at_call 35; refine (inr_any _ _ _ _).mono ?_; rintro e w1 ⟨rfl, rfl⟩)
              go_ret
              exact ⟨by rw [HL'.out]; rfl, hb⟩
          · have g0 : ((k : Int) == 0) = false := beq_eq_false_iff_ne.2 (by omega)
            have g1 : (k == 0) = false := beq_eq_false_iff_ne.2 h0
            have HL' := hd (show 0 < k + 1 → lag0 xs = true from fun _ => HL.out (by omega))
            clear h0
            go_wp2_with (go_at_call 35; refine (inr_any _ _ _ _).mono ?_; rintro e w1 ⟨rfl, rfl⟩)
            go_roundw
            case rel => exact ⟨k + 1, by omega, by go_num, HV', HL', hb⟩
            case measure => simp [intOf]; omega
        | false =>
          have HV' := hd (show VH xs = false by simp only [VH, HV.out, okH_no hlt (show okH xs[k] = false by simp only [okH, h2, Bool.and_false]), Bool.and_false])
          go_wp2_with (go_at_call 35; refine (inr_any _ _ _ _).mono ?_; rintro e w1 ⟨rfl, rfl⟩)
          go_ret
          exact ⟨by rw [HV'.out]; rfl, hb⟩
      | false =>
        have HV' := hd (show VH xs = false by simp only [VH, HV.out, okH_no hlt (show okH xs[k] = false by simp only [okH, h1, Bool.false_and]), Bool.and_false])
        go_wp2_with (go_at_call 35; refine (inr_any _ _ _ _).mono ?_; rintro e w1 ⟨rfl, rfl⟩)
        go_ret
        exact ⟨by rw [HV'.out]; rfl, hb⟩
    · obtain rfl : k = xs.length := by omega
      have HV' := hd (show VH xs = inB xs.length 1 5 by
        rw [VH, HV.out, okH_done xs]
        by_cases h0 : 0 < xs.length
        · rw [HL.out h0]; simp
        · have e0 : xs = [] := List.eq_nil_of_length_eq_zero (by omega)
          subst e0; rfl)
      go_wp2_with (go_at_call 35; refine (inr_any _ _ _ _).mono ?_; rintro e w' ⟨rfl, rfl⟩)
      go_ret
      exact ⟨by rw [HV'.out]; rfl, hb⟩
end Go.Proofs.Ytbpadfeplmmeeaa
