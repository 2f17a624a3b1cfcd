/- Contracts on shares: next, NextOwner of both. -/
import Derived.Test.YtjgijfmnplcdkaaWSh
namespace Go.Proofs.Ytjgijfmnplcdkaa
open Go.RowKit
theorem SlI.atN {w : World} {ad : Addr} {c : Nat} {xs : List Int} (h : SlI w (some ad) c xs) {i : Nat} (hi : i < xs.length) : w.cell? (ad.add i) = some (.int .i64 (at0 xs i)) := by
  rw [at0_of hi]; exact h.at1 hi
theorem nstep_no {xs ys asks : List Int} {b : Int} {k : Nat} (h : ¬ at0 ys (at0 asks k).toNat < at0 xs (at0 asks k).toNat) : nstep xs ys asks b k = b := if_neg fun h' => h h'.1
theorem nstep_first {xs ys asks : List Int} {b : Int} {k : Nat} (h : at0 ys (at0 asks k).toNat < at0 xs (at0 asks k).toNat) (hb : b < 0) : nstep xs ys asks b k = k := if_pos ⟨h, .inl hb⟩
theorem nstep_less {xs ys asks : List Int} {j k : Nat} (h : at0 ys (at0 asks k).toNat < at0 xs (at0 asks k).toNat) (h2 : at0 ys (at0 asks k).toNat < at0 ys (at0 asks j).toNat) : nstep xs ys asks (j : Int) k = k :=
  if_pos ⟨h, .inr (by rw [Int.toNat_natCast]; exact h2)⟩
theorem nstep_same {xs ys asks : List Int} {j k : Nat} (h2 : ¬ at0 ys (at0 asks k).toNat < at0 ys (at0 asks j).toNat) : nstep xs ys asks (j : Int) k = j := if_neg fun h' => by
  rcases h'.2 with h3 | h3
  · omega
  · rw [Int.toNat_natCast] at h3; exact h2 h3
set_option maxRecDepth 100000 in
set_option maxHeartbeats 4000000 in
theorem next_any (t : Int) (A : Option Addr) (c : Nat) (xs : List Int) (B : Option Addr) (d : Nat) (ys : List Int) (E : Option Addr) (f : Nat) (asks : List Int) (w : World) (h : SlI w A c xs) (h' : SlI w B d ys) (ha : SlI w E f asks)
    (hv : VSh t xs ys = true) (hq : allL asks 0 4 = true) :
    Calls Try.prog 17 #[.agg #[.int .i64 t, .slice A xs.length c, .slice B ys.length d], .slice E asks.length f] w fun e w' => e = .returned (.int .i64 (NX t xs ys asks)) ∧ Below w.heap.size w w' := by
  have hmax := h.max
  have hcap := h.cap
  have hmax' := h'.max
  have hcap' := h'.cap
  have hmaxa := ha.max
  have hcapa := ha.cap
  unfold maxLen at hmax hmax' hmaxa
  have V := valid_iff.1 hv
  have HV := hd V
  have h2l : 5 ≤ xs.length := by have := V.lx; omega
  have h3l : 5 ≤ ys.length := by have := V.ly; omega
  have h3m : ys.length ≤ 5 := by have := V.ly; omega
  have hb0 : Below w.heap.size w (w.alloc (.cells #[.int .i64 t, .slice A xs.length c, .slice B ys.length d] 25)) := ext_alloc (Below.refl _ _) _
  have HX0 := hd (Bx.new w (.int .i64 t) (.slice A xs.length c) (.slice B ys.length d))
  have b0 := HX0.out.c0
  have b1 := HX0.out.c1
  have b2 := HX0.out.c2
  have HB0 := hd hb0
  have HS := hd (h.ext hb0)
  have HT := hd (h'.ext hb0)
  have HA := hd (ha.ext hb0)
  have HVV := hd (fun (i : Nat) (hi : i < ys.length) => (show 0 ≤ at0 ys i ∧ at0 ys i ≤ 1000 by
    have a := V.my i (by omega)
    have b := V.mx i (by omega)
    omega))
  have HQ := hd hq
  obtain ⟨adx, rfl, -, -⟩ := Sl.addr h (by omega)
  obtain ⟨ady, rfl, -, -⟩ := Sl.addr h' (by omega)
  clear hb0 h h' V hv ha hq
  by_cases hst : ys.sum = t
  · have HR := hd (show NX t xs ys asks = -1 from if_pos hst)
    have g0 : (ys.sum == t) = true := beq_iff_eq.2 hst
    clear hst
    go_enter Try.func17, Try.ntmps17
    go_wp2_with fail
    go_quiet ((go_at_call 28; exact Calls.quiet_of_same (isum_q _ _ ys _ HT.out (by omega) HVV.out)))
    go_wp2
    go_ret
    exact ⟨by rw [HR.out]; rfl, below_drewN HB0.out _⟩
  · have HR := hd (show NX t xs ys asks = nxt xs ys asks asks.length from if_neg hst)
    have g0 : (ys.sum == t) = false := beq_eq_false_iff_ne.2 hst
    clear hst
    go_enter Try.func17, Try.ntmps17
    go_wp2_with fail
    go_quiet ((go_at_call 28; exact Calls.quiet_of_same (isum_q _ _ ys _ HT.out (by omega) HVV.out)))
    go_wp2
    go_loopw [5, 16] (fun v i wr => ∃ (k : Nat) (b : Int), k ≤ asks.length ∧ i = .int .i64 k ∧ v = .int .i64 b ∧ Hid (b = nxt xs ys asks k) ∧ (b = -1 ∨ ∃ j : Nat, b = (j : Int) ∧ j < k) ∧ Hid (SlI wr (some adx) c xs) ∧ Hid (SlI wr (some ady) d ys) ∧ Hid (SlI wr E f asks) ∧ Hid (Bx wr w.heap.size (.int .i64 t) (.slice (some adx) xs.length c) (.slice (some ady) ys.length d)) ∧ Below w.heap.size w wr) (fun v i _ => asks.length - (intOf i).toNat)
    case atStart => exact ⟨0, -1, Nat.zero_le _, rfl, rfl, rfl, .inl rfl, HS.out, HT.out, HA.out, HX0.out, below_drewN HB0.out _⟩
    case round =>
      clear HS HT HA HX0 HB0 b0 b1 b2 HVV
      obtain ⟨k, b, hk, rfl, rfl, HN, hbc, HS, HT, HA, HX, hb⟩ := hrel
      have b0 := HX.out.c0
      have b1 := HX.out.c1
      have b2 := HX.out.c2
      by_cases hlt : k < asks.length
      · obtain ⟨ada, rfl, -, -⟩ := SlI.at HA.out hlt
        have hk0 := allL_at HQ.out hlt
        rw [← at0_of hlt] at hk0
        have a0 := SlI.atN HA.out hlt
        have ht : (at0 asks k).toNat < 5 := by omega
        have y0 := SlI.atN HT.out (i := (at0 asks k).toNat) (by omega)
        have x0 := SlI.atN HS.out (i := (at0 asks k).toNat) (by omega)
        have hk1 := hk0.1
        have hk2 : at0 asks k < 5 := by omega
        have hnext : ∀ b', nstep xs ys asks b k = b' → Hid (b' = nxt xs ys asks (k + 1)) := fun b' e => by
          show b' = nstep xs ys asks (nxt xs ys asks k) k
          rw [← HN.out, e]
        by_cases h1 : at0 ys (at0 asks k).toNat < at0 xs (at0 asks k).toNat
        · have g1 : decide (at0 ys (at0 asks k).toNat < at0 xs (at0 asks k).toNat) = true := decide_eq_true h1
          rcases hbc with rfl | ⟨j, rfl, hj⟩
          · have HN' := hnext _ (nstep_first h1 (by omega))
            clear hnext h1
            go_wp2_with fail
            go_quiet (fail)
            go_wp2
            go_roundw
            case rel => exact ⟨k + 1, _, by omega, by go_num, rfl, HN', .inr ⟨k, rfl, by omega⟩, HS.out, HT.out, HA.out, HX.out, below_drewN hb _⟩
            case measure => simp [intOf]; omega
          · have hjl : j < asks.length := by omega
            have hj0 := allL_at HQ.out hjl
            rw [← at0_of hjl] at hj0
            have j0 := SlI.atN HA.out hjl
            have htj : (at0 asks j).toNat < 5 := by omega
            have yj := SlI.atN HT.out (i := (at0 asks j).toNat) (by omega)
            have hj1 := hj0.1
            have hj2 : at0 asks j < 5 := by omega
            have gj : decide ((j : Int) < 0) = false := decide_eq_false (by omega)
            by_cases h2 : at0 ys (at0 asks k).toNat < at0 ys (at0 asks j).toNat
            · have g2 : decide (at0 ys (at0 asks k).toNat < at0 ys (at0 asks j).toNat) = true := decide_eq_true h2
              have HN' := hnext _ (nstep_less h1 h2)
              clear hnext h1 h2
              go_wp2_with fail
              go_quiet (fail)
              go_wp2
              go_roundw
              case rel => exact ⟨k + 1, _, by omega, by go_num, rfl, HN', .inr ⟨k, rfl, by omega⟩, HS.out, HT.out, HA.out, HX.out, below_drewN hb _⟩
              case measure => simp [intOf]; omega
            · have g2 : decide (at0 ys (at0 asks k).toNat < at0 ys (at0 asks j).toNat) = false := decide_eq_false h2
              have HN' := hnext _ (nstep_same h2)
              clear hnext h1 h2
              go_wp2_with fail
              go_quiet (fail)
              go_wp2
              go_roundw
              case rel => exact ⟨k + 1, _, by omega, by go_num, rfl, HN', .inr ⟨j, rfl, by omega⟩, HS.out, HT.out, HA.out, HX.out, below_drewN hb _⟩
              case measure => simp [intOf]; omega
        · have g1 : decide (at0 ys (at0 asks k).toNat < at0 xs (at0 asks k).toNat) = false := decide_eq_false h1
          have HN' := hnext _ (nstep_no h1)
          clear hnext h1
          go_wp2_with fail
          go_quiet (fail)
          go_wp2
          go_roundw
          case rel => exact ⟨k + 1, _, by omega, by go_num, rfl, HN', hbc.imp id fun ⟨j, e, hj⟩ => ⟨j, e, by omega⟩, HS.out, HT.out, HA.out, HX.out, below_drewN hb _⟩
          case measure => simp [intOf]; omega
      · obtain rfl : k = asks.length := by omega
        go_wp2
        go_ret
        exact ⟨by rw [HR.out, HN.out]; rfl, hb⟩
set_option maxRecDepth 100000 in
set_option maxHeartbeats 4000000 in
theorem poorest_any (t : Int) (A : Option Addr) (c : Nat) (xs : List Int) (B : Option Addr) (d : Nat) (ys : List Int) (E : Option Addr) (f : Nat) (asks : List Int) (w : World) (h : SlI w A c xs) (h' : SlI w B d ys) (ha : SlI w E f asks)
    (hv : VSh t xs ys = true) (hq : allL asks 0 4 = true) :
    Calls Try.prog 36 #[.agg #[.int .i64 t, .slice A xs.length c, .slice B ys.length d], .slice E asks.length f] w fun e w' => e = .returned (.int .i64 (nxt xs ys asks asks.length)) ∧ Below w.heap.size w w' := by
  have hmax := h.max
  have hcap := h.cap
  have hmax' := h'.max
  have hcap' := h'.cap
  have hmaxa := ha.max
  have hcapa := ha.cap
  unfold maxLen at hmax hmax' hmaxa
  have V := valid_iff.1 hv
  have h2l : 5 ≤ xs.length := by have := V.lx; omega
  have h3l : 5 ≤ ys.length := by have := V.ly; omega
  have hb0 : Below w.heap.size w (w.alloc (.cells #[.int .i64 t, .slice A xs.length c, .slice B ys.length d] 25)) := ext_alloc (Below.refl _ _) _
  have HX0 := hd (Bx.new w (.int .i64 t) (.slice A xs.length c) (.slice B ys.length d))
  have HB0 := hd hb0
  have HS := hd (h.ext hb0)
  have HT := hd (h'.ext hb0)
  have HA := hd (ha.ext hb0)
  have HQ := hd hq
  obtain ⟨adx, rfl, -, -⟩ := Sl.addr h (by omega)
  obtain ⟨ady, rfl, -, -⟩ := Sl.addr h' (by omega)
  clear hb0 h h' V hv ha hq
  go_enter Try.func36, Try.ntmps36
  go_wp2
  go_loopw [5, 6] (fun v i wr => ∃ (k : Nat) (b : Int), k ≤ asks.length ∧ i = .int .i64 k ∧ v = .int .i64 b ∧ Hid (b = nxt xs ys asks k) ∧ (b = -1 ∨ ∃ j : Nat, b = (j : Int) ∧ j < k) ∧ Hid (SlI wr (some adx) c xs) ∧ Hid (SlI wr (some ady) d ys) ∧ Hid (SlI wr E f asks) ∧ Hid (Bx wr w.heap.size (.int .i64 t) (.slice (some adx) xs.length c) (.slice (some ady) ys.length d)) ∧ Below w.heap.size w wr) (fun v i _ => asks.length - (intOf i).toNat)
  case atStart => exact ⟨0, -1, Nat.zero_le _, rfl, rfl, rfl, .inl rfl, HS.out, HT.out, HA.out, HX0.out, HB0.out⟩
  case round =>
    clear HS HT HA HX0 HB0
    obtain ⟨k, b, hk, rfl, rfl, HN, hbc, HS, HT, HA, HX, hb⟩ := hrel
    have b0 := HX.out.c0
    have b1 := HX.out.c1
    have b2 := HX.out.c2
    by_cases hlt : k < asks.length
    · obtain ⟨ada, rfl, -, -⟩ := SlI.at HA.out hlt
      have hk0 := allL_at HQ.out hlt
      rw [← at0_of hlt] at hk0
      have a0 := SlI.atN HA.out hlt
      have ht : (at0 asks k).toNat < 5 := by omega
      have y0 := SlI.atN HT.out (i := (at0 asks k).toNat) (by omega)
      have x0 := SlI.atN HS.out (i := (at0 asks k).toNat) (by omega)
      have hk1 := hk0.1
      have hk2 : at0 asks k < 5 := by omega
      have hnext : ∀ b', nstep xs ys asks b k = b' → Hid (b' = nxt xs ys asks (k + 1)) := fun b' e => by
        show b' = nstep xs ys asks (nxt xs ys asks k) k
        rw [← HN.out, e]
      by_cases h1 : at0 ys (at0 asks k).toNat < at0 xs (at0 asks k).toNat
      · have g1 : decide (at0 ys (at0 asks k).toNat < at0 xs (at0 asks k).toNat) = true := decide_eq_true h1
        rcases hbc with rfl | ⟨j, rfl, hj⟩
        · have HN' := hnext _ (nstep_first h1 (by omega))
          clear hnext h1
          go_wp2_with fail
          go_quiet (fail)
          go_wp2
          go_roundw
          case rel => exact ⟨k + 1, _, by omega, by go_num, rfl, HN', .inr ⟨k, rfl, by omega⟩, HS.out, HT.out, HA.out, HX.out, below_drewN hb _⟩
          case measure => simp [intOf]; omega
        · have hjl : j < asks.length := by omega
          have hj0 := allL_at HQ.out hjl
          rw [← at0_of hjl] at hj0
          have j0 := SlI.atN HA.out hjl
          have htj : (at0 asks j).toNat < 5 := by omega
          have yj := SlI.atN HT.out (i := (at0 asks j).toNat) (by omega)
          have hj1 := hj0.1
          have hj2 : at0 asks j < 5 := by omega
          have gj : decide ((j : Int) < 0) = false := decide_eq_false (by omega)
          by_cases h2 : at0 ys (at0 asks k).toNat < at0 ys (at0 asks j).toNat
          · have g2 : decide (at0 ys (at0 asks k).toNat < at0 ys (at0 asks j).toNat) = true := decide_eq_true h2
            have HN' := hnext _ (nstep_less h1 h2)
            clear hnext h1 h2
            go_wp2_with fail
            go_quiet (fail)
            go_wp2
            go_roundw
            case rel => exact ⟨k + 1, _, by omega, by go_num, rfl, HN', .inr ⟨k, rfl, by omega⟩, HS.out, HT.out, HA.out, HX.out, below_drewN hb _⟩
            case measure => simp [intOf]; omega
          · have g2 : decide (at0 ys (at0 asks k).toNat < at0 ys (at0 asks j).toNat) = false := decide_eq_false h2
            have HN' := hnext _ (nstep_same h2)
            clear hnext h1 h2
            go_wp2_with fail
            go_quiet (fail)
            go_wp2
            go_roundw
            case rel => exact ⟨k + 1, _, by omega, by go_num, rfl, HN', .inr ⟨j, rfl, by omega⟩, HS.out, HT.out, HA.out, HX.out, below_drewN hb _⟩
            case measure => simp [intOf]; omega
      · have g1 : decide (at0 ys (at0 asks k).toNat < at0 xs (at0 asks k).toNat) = false := decide_eq_false h1
        have HN' := hnext _ (nstep_no h1)
        clear hnext h1
        go_wp2_with fail
        go_quiet (fail)
        go_wp2
        go_roundw
        case rel => exact ⟨k + 1, _, by omega, by go_num, rfl, HN', hbc.imp id fun ⟨j, e, hj⟩ => ⟨j, e, by omega⟩, HS.out, HT.out, HA.out, HX.out, below_drewN hb _⟩
        case measure => simp [intOf]; omega
    · obtain rfl : k = asks.length := by omega
      go_wp2
      go_ret
      exact ⟨by rw [HN.out]; rfl, hb⟩
end Go.Proofs.Ytjgijfmnplcdkaa
