/- The walk of laws.FnRouteRead. -/
import Derived.Test.YtifoecghanmofaaPRr
import Derived.Test.YtifoecghanmofaaDrH
namespace Go.Proofs.Ytifoecghanmofaa
open Go.RowKit
set_option maxRecDepth 100000 in
set_option maxHeartbeats 2000000 in
theorem lawRouteRead (A : Option Addr) (n c : Nat) (w : World) (h : SlB w A n c) :
    Calls Try.prog 7 #[.slice A n c] w fun e w' => e = .returned (.bool true) ∧ Below w.heap.size w w' := by
  have hmax := h.2.1
  have hcap := h.1
  unfold maxLen at hmax
  by_cases hn : 1048576 < n
  · go_enter Try.func7, Try.ntmps7
    go_wp2
    go_ret
    exact ⟨rfl, Below.refl _ _⟩
  · go_enter Try.func7, Try.ntmps7
    go_wp2_with fail
    refine (drawRouteRead_any A n c w h).mono ?_
    rintro e w1 ⟨B, d, ys, lag, rfl, hs, hl1, hl, hlag, hb1⟩
    have hlb : -1 ≤ lag ∧ lag ≤ 1001 := by
      simp only [List.mem_cons, List.not_mem_nil, or_false] at hlag
      omega
    clear hlag
    have hbm := hs.max
    have hbc := hs.cap
    unfold maxLen at hbm
    go_wp2_with fail
    refine (rr_any B d ys lag w1 hs).mono ?_
    rintro e w2 ⟨rfl, hx2⟩
    have hs2 := hs.ext hx2
    have hb2 := ext_trans hb1 hx2
    clear hs hx2 hb1
    go_wp2_with fail
    refine (sRR_any B d ys lag w2 hs2).mono ?_
    rintro e w3 ⟨rfl, hx3⟩
    have hs3 := hs2.ext hx3
    have hb3 := ext_trans hb2 hx3
    clear hs2 hx3 hb2
    have gne : (RR ys lag != RR ys lag) = false := by simp
    have geq : (RR ys lag == RR ys lag) = true := by simp
    by_cases hq : RR ys lag < 0
    · have g1 : decide (RR ys lag < 0) = true := decide_eq_true hq
      go_wp2_with fail
      refine (sRR_any B d ys lag w3 hs3).mono ?_
      rintro e w4 ⟨rfl, hx4⟩
      have hb4 := ext_trans hb3 hx4
      go_wp2
      go_ret
      refine ⟨?_, hb4⟩
      rfl
    · obtain ⟨m, hm⟩ : ∃ m : Nat, RR ys lag = (m : Int) := ⟨(RR ys lag).toNat, by omega⟩
      have hsome := RR_some (xs := ys) (lag := lag) (by omega)
      obtain ⟨hml, ⟨_, hmd, hmg⟩, hmin⟩ := (best_RT ys lag).some m (by rw [← hsome.2.2]; exact hm)
      have HMIN := hd hmin
      have HMD := hd hmd
      have g0 : decide ((ys.length : Int) ≤ (m : Int)) = false := decide_eq_false (by omega)
      have g0' : decide (ys.length ≤ m) = false := decide_eq_false (by omega)
      obtain ⟨ad, rfl, -, -⟩ := hs3.at0 hl1
      rw [hm] at gne geq
      rw [hm]
      clear hsome hmin hmd hq hm
      go_wp2_with fail
      go_loopw [6] (fun i wr => ∃ k : Nat, k ≤ ys.length ∧ i = .int .i64 k ∧ SlH wr (some ad) d ys ∧ Below w.heap.size w wr) (fun i _ => ys.length - (intOf i).toNat)
      case atStart => exact ⟨0, Nat.zero_le _, rfl, hs3, hb3⟩
      case round =>
        clear hs3 hb3
        obtain ⟨k, hk, rfl, hs, hb⟩ := hrel
        obtain ⟨m0, m1, m2⟩ := slH_at3 hs hml
        rw [HMD.out] at m2
        by_cases hlt : k < ys.length
        · obtain ⟨c0, c1, c2⟩ := slH_at3 hs hlt
          cases h1 : ys[k].2.2 with
          | true =>
            rw [h1] at c2
            go_wp2_with fail
            go_quiet (fail)
            go_wp2
            go_roundw
            case rel => exact ⟨k + 1, by omega, by go_num, hs, below_drewN hb _⟩
            case measure => simp [intOf]; omega
          | false =>
            rw [h1] at c2
            by_cases h2 : ys[k].2.1 ≤ lag
            · have g3 : decide (ys[k].2.1 ≤ lag) = true := decide_eq_true h2
              have hle := HMIN.out k hlt ⟨hlt, h1, h2⟩
              rw [ldo_at hml, ldo_at hlt] at hle
              have g4 : decide (ys[k].1 < ys[m].1) = false := decide_eq_false (by omega)
              by_cases h5 : ys[k].1 = ys[m].1
              · have g5 : (ys[k].1 == ys[m].1) = true := beq_iff_eq.2 h5
                by_cases h6 : 0 < k
                · have h7 := hle.2 h5 h6
                  have g6 : decide ((0 : Int) < (k : Int)) = true := decide_eq_true (by omega)
                  have g6' : decide (0 < k) = true := decide_eq_true h6
                  have g7 : decide ((k : Int) < (m : Int)) = false := decide_eq_false (by omega)
                  have g7' : decide (k < m) = false := decide_eq_false (by omega)
                  have g8 : ((m : Int) == 0) = false := beq_eq_false_iff_ne.2 (by omega)
                  have g8' : (m == 0) = false := beq_eq_false_iff_ne.2 (by omega)
                  clear hle h5 h7
                  go_wp2_with fail
                  go_quiet (fail)
                  go_wp2
                  go_roundw
                  case rel => exact ⟨k + 1, by omega, by go_num, hs, below_drewN hb _⟩
                  case measure => simp [intOf]; omega
                · have g6 : decide ((0 : Int) < (k : Int)) = false := decide_eq_false (by omega)
                  have g6' : decide (0 < k) = false := decide_eq_false h6
                  clear hle h5
                  go_wp2_with fail
                  go_quiet (fail)
                  go_wp2
                  go_roundw
                  case rel => exact ⟨k + 1, by omega, by go_num, hs, below_drewN hb _⟩
                  case measure => simp [intOf]; omega
              · have g5 : (ys[k].1 == ys[m].1) = false := beq_eq_false_iff_ne.2 h5
                clear hle h5
                go_wp2_with fail
                go_quiet (fail)
                go_wp2
                go_roundw
                case rel => exact ⟨k + 1, by omega, by go_num, hs, below_drewN hb _⟩
                case measure => simp [intOf]; omega
            · have g3 : decide (ys[k].2.1 ≤ lag) = false := decide_eq_false h2
              go_wp2_with fail
              go_quiet (fail)
              go_wp2
              go_roundw
              case rel => exact ⟨k + 1, by omega, by go_num, hs, below_drewN hb _⟩
              case measure => simp [intOf]; omega
        · obtain rfl : k = ys.length := by omega
          have g9 : decide (ys[m].2.1 ≤ lag) = true := decide_eq_true hmg
          go_wp2
          go_ret
          exact ⟨rfl, hb⟩
end Go.Proofs.Ytifoecghanmofaa
