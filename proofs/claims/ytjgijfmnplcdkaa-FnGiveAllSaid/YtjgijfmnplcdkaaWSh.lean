/- Contracts on shares: sums, ValidShare of both. -/
import Derived.Test.YtjgijfmnplcdkaaPSh
namespace Go.Proofs.Ytjgijfmnplcdkaa
open Go.RowKit
/-- A share in a block of its own. -/
def Bx (w : World) (g : Nat) (u v x : Value) : Prop := w.heap[g]? = some (.cells #[u, v, x] 25 (0, 0))
section
variable {w w' : World} {g : Nat} {u v x : Value}
theorem Bx.lt (h : Bx w g u v x) : g < w.heap.size := lt_of_block h
theorem Bx.c0 (h : Bx w g u v x) : w.cell? ⟨g, 0, none⟩ = some u := by rw [cell_of_row _ _ _ _ _ _ h]; rfl
theorem Bx.c1 (h : Bx w g u v x) : w.cell? ⟨g, 1, none⟩ = some v := by rw [cell_of_row _ _ _ _ _ _ h]; rfl
theorem Bx.c2 (h : Bx w g u v x) : w.cell? ⟨g, 2, none⟩ = some x := by rw [cell_of_row _ _ _ _ _ _ h]; rfl
theorem Bx.ext (h : Bx w g u v x) (hb : Below w.heap.size w w') : Bx w' g u v x := (hb.block g h.lt).trans h
theorem Bx.new (w : World) (u v x : Value) : Bx (w.alloc (.cells #[u, v, x] 25)) w.heap.size u v x := heap_alloc_new w _
theorem Bx.alloc (h : Bx w g u v x) (o : Obj) : Bx (w.alloc o) g u v x := (Below.heap_alloc w o g h.lt).trans h
end
set_option maxHeartbeats 400000 in
theorem isum_any (A : Option Addr) (c : Nat) (xs : List Int) (w : World) (h : SlI w A c xs) (hl : xs.length ≤ 1000) (hv : ∀ i, i < xs.length → 0 ≤ at0 xs i ∧ at0 xs i ≤ 1000) :
    Calls Try.prog 28 #[.slice A xs.length c] w fun e w' => e = .returned (.int .i64 xs.sum) ∧ w = w' := by
  have HV := hd hv
  have HB := hd (sum_bound hv)
  clear hv
  go_enter Try.func28, Try.ntmps28
  go_wp2
  go_loop [3, 8] (fun n i => ∃ (k : Nat) (s : Int), k ≤ xs.length ∧ i = .int .i64 k ∧ n = .int .i64 s ∧ Hid (s = (xs.take k).sum)) (fun n i => xs.length - (intOf i).toNat)
  case atStart => exact ⟨0, 0, Nat.zero_le _, rfl, rfl, by simp [Hid]⟩
  case round =>
    obtain ⟨k, s, hk, rfl, rfl, HS⟩ := hrel
    by_cases hlt : k < xs.length
    · obtain ⟨ad, rfl, hbl, hc0⟩ := h.at hlt
      have h1 := HV.out k hlt
      rw [at0_of hlt] at h1
      have h2 := HB.out k hk
      rw [← HS.out] at h2
      have HS' := hd (show s + xs[k] = (xs.take (k + 1)).sum by rw [sum_take_next hlt, ← HS.out])
      go_wp2
      go_round
      case rel => exact ⟨k + 1, _, by omega, by go_num, rfl, HS'⟩
      case measure => simp [intOf]; omega
    · obtain rfl : k = xs.length := by omega
      go_wp2
      go_ret
      exact ⟨by rw [HS.out, List.take_length]; rfl, rfl⟩
set_option maxHeartbeats 400000 in
theorem total_any (A : Option Addr) (c : Nat) (xs : List Int) (w : World) (h : SlI w A c xs) (hl : xs.length ≤ 1000) (hv : ∀ i, i < xs.length → 0 ≤ at0 xs i ∧ at0 xs i ≤ 1000) :
    Calls Try.prog 35 #[.slice A xs.length c] w fun e w' => e = .returned (.int .i64 xs.sum) ∧ w = w' := by
  have HV := hd hv
  have HB := hd (sum_bound hv)
  clear hv
  go_enter Try.func35, Try.ntmps35
  go_wp2
  go_loop [3, 4] (fun n i => ∃ (k : Nat) (s : Int), k ≤ xs.length ∧ i = .int .i64 k ∧ n = .int .i64 s ∧ Hid (s = (xs.take k).sum)) (fun n i => xs.length - (intOf i).toNat)
  case atStart => exact ⟨0, 0, Nat.zero_le _, rfl, rfl, by simp [Hid]⟩
  case round =>
    obtain ⟨k, s, hk, rfl, rfl, HS⟩ := hrel
    by_cases hlt : k < xs.length
    · obtain ⟨ad, rfl, hbl, hc0⟩ := h.at hlt
      have h1 := HV.out k hlt
      rw [at0_of hlt] at h1
      have h2 := HB.out k hk
      rw [← HS.out] at h2
      have HS' := hd (show s + xs[k] = (xs.take (k + 1)).sum by rw [sum_take_next hlt, ← HS.out])
      go_wp2
      go_round
      case rel => exact ⟨k + 1, _, by omega, by go_num, rfl, HS'⟩
      case measure => simp [intOf]; omega
    · obtain rfl : k = xs.length := by omega
      go_wp2
      go_ret
      exact ⟨by rw [HS.out, List.take_length]; rfl, rfl⟩
set_option maxHeartbeats 400000 in
theorem lsum_any (A : Option Addr) (c : Nat) (xs : List Int) (w : World) (h : SlI w A c xs) (hl : xs.length ≤ 1000) (hv : ∀ i, i < xs.length → 0 ≤ at0 xs i ∧ at0 xs i ≤ 1000) :
    Calls Try.prog 11 #[.slice A xs.length c] w fun e w' => e = .returned (.int .i64 xs.sum) ∧ w = w' := by
  have HV := hd hv
  have HB := hd (sum_bound hv)
  clear hv
  go_enter Try.func11, Try.ntmps11
  go_wp2
  go_loop [3, 4] (fun n i => ∃ (k : Nat) (s : Int), k ≤ xs.length ∧ i = .int .i64 k ∧ n = .int .i64 s ∧ Hid (s = (xs.take k).sum)) (fun n i => xs.length - (intOf i).toNat)
  case atStart => exact ⟨0, 0, Nat.zero_le _, rfl, rfl, by simp [Hid]⟩
  case round =>
    obtain ⟨k, s, hk, rfl, rfl, HS⟩ := hrel
    by_cases hlt : k < xs.length
    · obtain ⟨ad, rfl, hbl, hc0⟩ := h.at hlt
      have h1 := HV.out k hlt
      rw [at0_of hlt] at h1
      have h2 := HB.out k hk
      rw [← HS.out] at h2
      have HS' := hd (show s + xs[k] = (xs.take (k + 1)).sum by rw [sum_take_next hlt, ← HS.out])
      go_wp2
      go_round
      case rel => exact ⟨k + 1, _, by omega, by go_num, rfl, HS'⟩
      case measure => simp [intOf]; omega
    · obtain rfl : k = xs.length := by omega
      go_wp2
      go_ret
      exact ⟨by rw [HS.out, List.take_length]; rfl, rfl⟩
theorem uptoL_no {ys xs : List Int} {k : Nat} (h0 : uptoL ys xs k = true) (h1 : inB (at0 ys k) 0 (at0 xs k) = false) (hk : k < 5) : uptoL ys xs 5 = false :=
  uptoL_le (m := k + 1) (by rw [uptoL_next, h0, h1]; rfl) (by omega)
theorem uptoL_yes {ys xs : List Int} {k : Nat} (h0 : uptoL ys xs k = true) (h1 : inB (at0 ys k) 0 (at0 xs k) = true) : uptoL ys xs (k + 1) = true := by rw [uptoL_next, h0, h1]; rfl
theorem VSh_no1 {t : Int} {xs ys : List Int} (h : inB t 0 20 = false) : VSh t xs ys = false := by simp only [VSh, h, Bool.false_and]
theorem VSh_no2 {t : Int} {xs ys : List Int} (h : xs.length ≠ 5) : VSh t xs ys = false := by
  have : (xs.length == 5) = false := beq_eq_false_iff_ne.2 h
  simp only [VSh, this, Bool.false_and, Bool.and_false]
theorem VSh_no3 {t : Int} {xs ys : List Int} (h : ys.length ≠ 5) : VSh t xs ys = false := by
  have : (ys.length == 5) = false := beq_eq_false_iff_ne.2 h
  simp only [VSh, this, Bool.false_and, Bool.and_false]
theorem VSh_no4 {t : Int} {xs ys : List Int} (h : allL xs 0 20 = false) : VSh t xs ys = false := by simp only [VSh, h, Bool.false_and, Bool.and_false]
theorem VSh_no5 {t : Int} {xs ys : List Int} (h : uptoL ys xs 5 = false) : VSh t xs ys = false := by simp only [VSh, h, Bool.false_and, Bool.and_false]
theorem VSh_eq {t : Int} {xs ys : List Int} (h1 : inB t 0 20 = true) (h2 : xs.length = 5) (h3 : ys.length = 5) (h4 : allL xs 0 20 = true) (h5 : uptoL ys xs 5 = true) : VSh t xs ys = decide (ys.sum ≤ t) := by
  simp only [VSh, h1, h2, h3, h4, h5, Bool.true_and, beq_self_eq_true]
theorem upto_small {ys xs : List Int} (h4 : allL xs 0 20 = true) (hx : xs.length = 5) {k : Nat} (h5 : uptoL ys xs k = true) {i : Nat} (hi : i < k) (hk : k ≤ 5) : 0 ≤ at0 ys i ∧ at0 ys i ≤ 20 := by
  have a := uptoL_at h5 hi
  have b := allL_at h4 (k := i) (by omega)
  rw [← at0_of (by omega)] at b
  omega
theorem isum_q (A : Option Addr) (c : Nat) (xs : List Int) (w : World) (h : SlI w A c xs) (hl : xs.length ≤ 1000) (hv : ∀ i, i < xs.length → 0 ≤ at0 xs i ∧ at0 xs i ≤ 1000) :
    Calls Try.prog 28 #[.slice A xs.length c] w fun e w' => e = .returned (.int .i64 xs.sum) ∧ w' = w := (isum_any A c xs w h hl hv).mono fun _ _ h => ⟨h.1, h.2.symm⟩
set_option maxHeartbeats 2000000 in
theorem vsh_any (t : Int) (A : Option Addr) (c : Nat) (xs : List Int) (B : Option Addr) (d : Nat) (ys : List Int) (w : World) (h : SlI w A c xs) (h' : SlI w B d ys) :
    Calls Try.prog 10 #[.agg #[.int .i64 t, .slice A xs.length c, .slice B ys.length d]] w fun e w' => e = .returned (.bool (VSh t xs ys)) ∧ Below w.heap.size w w' := by
  have hmax := h.max
  have hcap := h.cap
  have hmax' := h'.max
  have hcap' := h'.cap
  unfold maxLen at hmax hmax'
  have hb0 : Below w.heap.size w (w.alloc (.cells #[.int .i64 t, .slice A xs.length c, .slice B ys.length d] 25)) := ext_alloc (Below.refl _ _) _
  have hs0 := h.ext hb0
  have hx0 := Bx.new w (.int .i64 t) (.slice A xs.length c) (.slice B ys.length d)
  have HB0 := hd hb0
  have HX0 := hd hx0
  clear hb0 hx0
  cases h1 : inB t 0 20 with
  | false =>
    have HR := hd (VSh_no1 (xs := xs) (ys := ys) h1)
    go_enter Try.func10, Try.ntmps10
    go_wp2_with (go_at_call 26; refine (in_any _ _ _ _).mono ?_; rintro e w2 ⟨rfl, rfl⟩)
    go_ret
    exact ⟨by rw [HR.out]; rfl, HB0.out⟩
  | true =>
    by_cases h2 : xs.length = 5
    · have g2 : ((xs.length : Int) != 5) = false := by simp [h2]
      by_cases h3 : ys.length = 5
      · have g3 : ((ys.length : Int) != 5) = false := by simp [h3]
        have H2 := hd h2
        have H3 := hd h3
        have h2l : 5 ≤ xs.length := by omega
        have h3l : 5 ≤ ys.length := by omega
        have h3m : ys.length ≤ 5 := by omega
        clear h2 h3
        cases h4 : allL xs 0 20 with
        | false =>
          have HR := hd (VSh_no4 (t := t) (ys := ys) h4)
          go_enter Try.func10, Try.ntmps10
          go_wp2_with (go_at_call 26; refine (in_any _ _ _ _).mono ?_; rintro e w2 ⟨rfl, rfl⟩)
          refine (allIn_any _ _ _ _ _ _ hs0).mono ?_
          rintro e w1 ⟨rfl, hx1⟩
          rw [h4]
          go_wp2
          go_ret
          exact ⟨by rw [HR.out]; rfl, HB0.out.trans (hx1.mono HB0.out.size)⟩
        | true =>
          go_enter Try.func10, Try.ntmps10
          go_wp2_with (go_at_call 26; refine (in_any _ _ _ _).mono ?_; rintro e w2 ⟨rfl, rfl⟩)
          refine (allIn_any _ _ _ _ _ _ hs0).mono ?_
          rintro e w1 ⟨rfl, hx1⟩
          rw [h4]
          have hb1 := HB0.out.trans (hx1.mono HB0.out.size)
          have bx := HX0.out.ext hx1
          have b0 := bx.c0
          have b1 := bx.c1
          have b2 := bx.c2
          have HS := hd (h.ext hb1)
          have HT := hd (h'.ext hb1)
          have HB1 := hd hb1
          clear hb1 hx1 bx hs0 h h'
          go_wp2_with fail
          go_loop [30] (fun i => ∃ k : Nat, k ≤ ys.length ∧ i = .int .i64 k ∧ Hid (uptoL ys xs k = true)) (fun i => ys.length - (intOf i).toNat)
          case atStart => exact ⟨0, Nat.zero_le _, rfl, rfl⟩
          case round =>
            obtain ⟨k, hk, rfl, HU⟩ := hrel
            by_cases hlt : k < ys.length
            · have hltx : k < xs.length := by omega
              obtain ⟨ad', rfl, -, e0⟩ := (SlI.at HT.out hlt)
              obtain ⟨ad, rfl, -, d0⟩ := (SlI.at HS.out hltx)
              cases h5 : inB ys[k] 0 xs[k] with
              | true =>
                have HU' := hd (uptoL_yes HU.out (by rw [at0_of hlt, at0_of hltx]; exact h5))
                go_wp2_with (go_at_call 26; refine (in_any _ _ _ _).mono ?_; rintro e w2 ⟨rfl, rfl⟩)
                go_round
                case rel => exact ⟨k + 1, by omega, by go_num, HU'⟩
                case measure => simp [intOf]; omega
              | false =>
                have HR := hd (VSh_no5 (t := t) (uptoL_no HU.out (by rw [at0_of hlt, at0_of hltx]; exact h5) (by omega)))
                go_wp2_with (go_at_call 26; refine (in_any _ _ _ _).mono ?_; rintro e w2 ⟨rfl, rfl⟩)
                go_ret
                exact ⟨by rw [HR.out]; rfl, HB1.out⟩
            · obtain rfl : k = ys.length := by omega
              have HU5 : Hid (uptoL ys xs 5 = true) := by have := HU.out; rw [H3.out] at this; exact this
              have HR := hd (VSh_eq h1 H2.out H3.out h4 HU5.out)
              have HVV := hd (fun (i : Nat) (hi : i < ys.length) => (show 0 ≤ at0 ys i ∧ at0 ys i ≤ 1000 by have := upto_small h4 H2.out HU5.out (i := i) (by omega) (Nat.le_refl _); omega))
              go_wp2_with fail
              go_quiet ((go_at_call 28; exact Calls.quiet_of_same (isum_q _ _ ys _ HT.out (by omega) HVV.out)))
              go_wp2
              go_ret
              exact ⟨by rw [HR.out]; rfl, below_drewN HB1.out _⟩
      · have g3 : ((ys.length : Int) != 5) = true := by simp; omega
        have HR := hd (VSh_no3 (t := t) (xs := xs) h3)
        clear h2 h3
        go_enter Try.func10, Try.ntmps10
        go_wp2_with (go_at_call 26; refine (in_any _ _ _ _).mono ?_; rintro e w2 ⟨rfl, rfl⟩)
        go_ret
        exact ⟨by rw [HR.out]; rfl, HB0.out⟩
    · have g2 : ((xs.length : Int) != 5) = true := by simp; omega
      have HR := hd (VSh_no2 (t := t) (ys := ys) h2)
      clear h2
      go_enter Try.func10, Try.ntmps10
      go_wp2_with (go_at_call 26; refine (in_any _ _ _ _).mono ?_; rintro e w2 ⟨rfl, rfl⟩)
      go_ret
      exact ⟨by rw [HR.out]; rfl, HB0.out⟩
set_option maxHeartbeats 2000000 in
theorem svsh_any (t : Int) (A : Option Addr) (c : Nat) (xs : List Int) (B : Option Addr) (d : Nat) (ys : List Int) (w : World) (h : SlI w A c xs) (h' : SlI w B d ys) :
    Calls Try.prog 21 #[.agg #[.int .i64 t, .slice A xs.length c, .slice B ys.length d]] w fun e w' => e = .returned (.bool (VSh t xs ys)) ∧ Below w.heap.size w w' := by
  have hmax := h.max
  have hcap := h.cap
  have hmax' := h'.max
  have hcap' := h'.cap
  unfold maxLen at hmax hmax'
  have hb0 : Below w.heap.size w (w.alloc (.cells #[.int .i64 t, .slice A xs.length c, .slice B ys.length d] 25)) := ext_alloc (Below.refl _ _) _
  have hs0 := h.ext hb0
  have hx0 := Bx.new w (.int .i64 t) (.slice A xs.length c) (.slice B ys.length d)
  have HB0 := hd hb0
  have HX0 := hd hx0
  clear hb0 hx0
  cases h1 : inB t 0 20 with
  | false =>
    have HR := hd (VSh_no1 (xs := xs) (ys := ys) h1)
    go_enter Try.func21, Try.ntmps21
    go_wp2_with (go_at_call 34; refine (inr_any _ _ _ _).mono ?_; rintro e w2 ⟨rfl, rfl⟩)
    go_ret
    exact ⟨by rw [HR.out]; rfl, HB0.out⟩
  | true =>
    by_cases h2 : xs.length = 5
    · have g2 : ((xs.length : Int) != 5) = false := by simp [h2]
      cases h4 : allL xs 0 20 with
      | false =>
        have HR := hd (VSh_no4 (t := t) (ys := ys) h4)
        clear h2
        go_enter Try.func21, Try.ntmps21
        go_wp2_with (first | (go_at_call 34; refine (inr_any _ _ _ _).mono ?_; rintro e w2 ⟨rfl, rfl⟩) | (go_at_call 22; refine (sAllIn_any _ _ _ _ _ _ hs0).mono ?_; rintro e w2 ⟨rfl, rfl⟩))
        go_ret
        exact ⟨by rw [HR.out]; rfl, HB0.out⟩
      | true =>
        by_cases h3 : ys.length = 5
        · have g3 : ((ys.length : Int) != 5) = false := by simp [h3]
          have H2 := hd h2
          have H3 := hd h3
          have h2l : 5 ≤ xs.length := by omega
          have h3l : 5 ≤ ys.length := by omega
          have b0 := HX0.out.c0
          have b1 := HX0.out.c1
          have b2 := HX0.out.c2
          have HS := hd hs0
          have HT := hd (h'.ext HB0.out)
          clear h2 h3 h h'
          go_enter Try.func21, Try.ntmps21
          go_wp2_with (first | (go_at_call 34; refine (inr_any _ _ _ _).mono ?_; rintro e w2 ⟨rfl, rfl⟩) | (go_at_call 22; refine (sAllIn_any _ _ _ _ _ _ HS.out).mono ?_; rintro e w2 ⟨rfl, rfl⟩))
          go_loopw [3, 4] (fun n i wr => ∃ (k : Nat) (s : Int), k ≤ 5 ∧ i = .int .i64 k ∧ n = .int .i64 s ∧ Hid (s = (ys.take k).sum) ∧ Hid (uptoL ys xs k = true) ∧ Hid (SlI wr A c xs) ∧ Hid (SlI wr B d ys) ∧ Hid (Bx wr w.heap.size (.int .i64 t) (.slice A xs.length c) (.slice B ys.length d)) ∧ Below w.heap.size w wr ∧ 0 ≤ s ∧ s ≤ 20 * k) (fun _ i _ => 5 - (intOf i).toNat)
          case atStart => exact ⟨0, 0, Nat.zero_le _, rfl, rfl, by simp [Hid], rfl, HS.out, HT.out, HX0.out, HB0.out, by omega, by omega⟩
          case round =>
            clear HS HT HX0 HB0 b0 b1 b2 hs0
            obtain ⟨k, s, hk, rfl, rfl, HSU, HU, HS, HT, HX, hb, hs0, hs1⟩ := hrel
            have b0 := HX.out.c0
            have b1 := HX.out.c1
            have b2 := HX.out.c2
            by_cases hlt : k < 5
            · have hlty : k < ys.length := by omega
              have hltx : k < xs.length := by omega
              obtain ⟨ad', rfl, -, e0⟩ := (SlI.at HT.out hlty)
              obtain ⟨ad, rfl, -, d0⟩ := (SlI.at HS.out hltx)
              cases h5 : inB ys[k] 0 xs[k] with
              | true =>
                have HU' := hd (uptoL_yes HU.out (by rw [at0_of hlty, at0_of hltx]; exact h5))
                have hk1 := upto_small h4 H2.out HU'.out (i := k) (by omega) (by omega)
                rw [at0_of hlty] at hk1
                have HSU' := hd (show s + ys[k] = (ys.take (k + 1)).sum by rw [sum_take_next hlty, ← HSU.out])
                go_wp2_with fail
                go_quiet ((go_at_call 34; exact Calls.quiet_of_same (inr_q _ _ _ _)))
                go_wp2
                go_roundw
                case rel => exact ⟨k + 1, _, by omega, by go_num, rfl, HSU', HU', HS.out, HT.out, HX.out, below_drewN hb _, by omega, by omega⟩
                case measure => simp [intOf]; omega
              | false =>
                have HR := hd (VSh_no5 (t := t) (uptoL_no HU.out (by rw [at0_of hlty, at0_of hltx]; exact h5) (by omega)))
                go_wp2_with fail
                go_quiet ((go_at_call 34; exact Calls.quiet_of_same (inr_q _ _ _ _)))
                go_wp2
                go_ret
                exact ⟨by rw [HR.out]; rfl, below_drewN hb _⟩
            · obtain rfl : k = 5 := by omega
              have HR := hd (VSh_eq h1 H2.out H3.out h4 HU.out)
              have HSF := hd (show s = ys.sum by rw [HSU.out, ← H3.out, List.take_length])
              go_wp2
              go_ret
              exact ⟨by rw [HR.out, ← HSF.out]; rfl, hb⟩
        · have g3 : ((ys.length : Int) != 5) = true := by simp; omega
          have HR := hd (VSh_no3 (t := t) (xs := xs) h3)
          clear h2 h3
          go_enter Try.func21, Try.ntmps21
          go_wp2_with (first | (go_at_call 34; refine (inr_any _ _ _ _).mono ?_; rintro e w2 ⟨rfl, rfl⟩) | (go_at_call 22; refine (sAllIn_any _ _ _ _ _ _ hs0).mono ?_; rintro e w2 ⟨rfl, rfl⟩))
          go_ret
          exact ⟨by rw [HR.out]; rfl, HB0.out⟩
    · have g2 : ((xs.length : Int) != 5) = true := by simp; omega
      have HR := hd (VSh_no2 (t := t) (ys := ys) h2)
      clear h2
      go_enter Try.func21, Try.ntmps21
      go_wp2_with (go_at_call 34; refine (inr_any _ _ _ _).mono ?_; rintro e w2 ⟨rfl, rfl⟩)
      go_ret
      exact ⟨by rw [HR.out]; rfl, HB0.out⟩
end Go.Proofs.Ytjgijfmnplcdkaa
