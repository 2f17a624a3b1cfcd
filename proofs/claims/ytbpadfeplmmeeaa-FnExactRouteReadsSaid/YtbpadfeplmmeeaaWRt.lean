/- Contracts: impl.route, spec.routeRead, and the functions over them. -/
import Derived.Test.YtbpadfeplmmeeaaPRo
import Derived.Test.YtbpadfeplmmeeaaWVh
namespace Go.Proofs.Ytbpadfeplmmeeaa
open Go.RowKit
theorem slH_at {w : World} {A : Option Addr} {c : Nat} {xs : List Ho} (h : SlH w A c xs) {ad : Addr} (e : A = some ad) {i : Nat} (hi : i < xs.length) :
    w.cell? (ad.add (i * 3)) = some (.int .i64 xs[i].1) := by
  obtain ⟨ad', e', _, h1, _⟩ := h.at hi
  rw [e] at e'; injection e' with e'; subst e'; exact h1
set_option maxHeartbeats 2000000 in
theorem route_any (A : Option Addr) (c : Nat) (xs : List Ho) (lag : Int) (w : World) (h : SlH w A c xs) :
    Calls Try.prog 43 #[.slice A xs.length c, .int .i64 lag] w fun e w' => e = .returned (.int .i64 (RT xs lag)) ∧ Below w.heap.size w w' := by
  have hmax := h.max
  have hcap := h.cap
  unfold maxLen at hmax
  go_enter Try.func43, Try.ntmps43
  go_wp2
  go_loopw [5, 10] (fun v i wr => ∃ (k : Nat) (b : Int), k ≤ xs.length ∧ i = .int .i64 k ∧ v = .int .i64 b ∧ Hid (b = rte xs lag k) ∧ (b = -1 ∨ ∃ j : Nat, b = (j : Int) ∧ j < k) ∧ Below w.heap.size w wr) (fun v i _ => xs.length - (intOf i).toNat)
  case atStart => exact ⟨0, -1, Nat.zero_le _, rfl, rfl, rfl, .inl rfl, Below.refl _ _⟩
  case round =>
    obtain ⟨k, b, hk, rfl, rfl, HV, hbc, hb⟩ := hrel
    by_cases hlt : k < xs.length
    · obtain ⟨ad, rfl, hbl, hc0, hc1, hc2⟩ := (h.ext hb).at hlt
      have hnext : ∀ b', rstep xs lag b k = b' → Hid (b' = rte xs lag (k + 1)) := fun b' e => by
        show b' = rstep xs lag (rte xs lag k) k
        rw [← HV.out, e]
      cases h1 : xs[k].2.2 with
      | true =>
        rw [h1] at hc2
        have HN := hnext _ (rstep_down hlt h1)
        clear hnext
        go_wp2
        go_roundw
        case rel => exact ⟨k + 1, _, by omega, by go_num, rfl, HN, hbc.imp id fun ⟨j, e, hj⟩ => ⟨j, e, by omega⟩, ext_alloc hb _⟩
        case measure => simp [intOf]; omega
      | false =>
        rw [h1] at hc2
        by_cases h2 : xs[k].2.1 ≤ lag
        · have g2 : decide (xs[k].2.1 ≤ lag) = true := decide_eq_true h2
          have g3 : decide (lag < xs[k].2.1) = false := decide_eq_false (by omega)
          rcases hbc with rfl | ⟨j, rfl, hj⟩
          · have HN := hnext _ (rstep_first hlt h1 h2 (by omega))
            clear hnext
            go_wp2_with fail
            go_quiet (fail)
            go_wp2
            go_roundw
            case rel => exact ⟨k + 1, _, by omega, by go_num, rfl, HN, .inr ⟨k, rfl, by omega⟩, below_drewN (ext_alloc hb _) _⟩
            case measure => simp [intOf]; omega
          · have hjl : j < xs.length := by omega
            have d0 := fun o => (World.cell?_alloc_lt wr o _ (by rw [blk_add]; exact hbl)).trans (slH_at (h.ext hb) rfl hjl)
            have gj : decide ((j : Int) < 0) = false := decide_eq_false (by omega)
            by_cases h3 : xs[k].1 < xs[j].1
            · have g4 : decide (xs[k].1 < xs[j].1) = true := decide_eq_true h3
              have HN := hnext _ (rstep_less hlt hjl h1 h2 h3)
              clear hnext
              go_wp2_with fail
              go_quiet (fail)
              go_wp2
              go_roundw
              case rel => exact ⟨k + 1, _, by omega, by go_num, rfl, HN, .inr ⟨k, rfl, by omega⟩, below_drewN (ext_alloc hb _) _⟩
              case measure => simp [intOf]; omega
            · have g4 : decide (xs[k].1 < xs[j].1) = false := decide_eq_false h3
              by_cases h4 : xs[k].1 = xs[j].1
              · have g5 : (xs[k].1 == xs[j].1) = true := beq_iff_eq.2 h4
                by_cases h5 : j = 0
                · have HN := hnext _ (rstep_zero hlt hjl h1 h2 h4 h5)
                  have g6 : ((j : Int) == 0) = true := beq_iff_eq.2 (by omega)
                  have g7 : (j == 0) = true := beq_iff_eq.2 h5
                  clear hnext h5 h4
                  go_wp2_with fail
                  go_quiet (fail)
                  go_wp2
                  go_roundw
                  case rel => exact ⟨k + 1, _, by omega, by go_num, rfl, HN, .inr ⟨k, rfl, by omega⟩, below_drewN (ext_alloc hb _) _⟩
                  case measure => simp [intOf]; omega
                · have HN := hnext _ (rstep_same hlt hjl h3 (fun h => h5 h.2))
                  have g6 : ((j : Int) == 0) = false := beq_eq_false_iff_ne.2 (by omega)
                  have g7 : (j == 0) = false := beq_eq_false_iff_ne.2 h5
                  clear hnext h5 h4
                  go_wp2_with fail
                  go_quiet (fail)
                  go_wp2
                  go_roundw
                  case rel => exact ⟨k + 1, _, by omega, by go_num, rfl, HN, .inr ⟨j, rfl, by omega⟩, below_drewN (ext_alloc hb _) _⟩
                  case measure => simp [intOf]; omega
              · have g5 : (xs[k].1 == xs[j].1) = false := beq_eq_false_iff_ne.2 h4
                have HN := hnext _ (rstep_same hlt hjl h3 (fun h => h4 h.1))
                clear hnext h4
                go_wp2_with fail
                go_quiet (fail)
                go_wp2
                go_roundw
                case rel => exact ⟨k + 1, _, by omega, by go_num, rfl, HN, .inr ⟨j, rfl, by omega⟩, below_drewN (ext_alloc hb _) _⟩
                case measure => simp [intOf]; omega
        · have g2 : decide (xs[k].2.1 ≤ lag) = false := decide_eq_false h2
          have g3 : decide (lag < xs[k].2.1) = true := decide_eq_true (by omega)
          have HN := hnext _ (rstep_late hlt (by omega))
          clear hnext
          go_wp2
          go_roundw
          case rel => exact ⟨k + 1, _, by omega, by go_num, rfl, HN, hbc.imp id fun ⟨j, e, hj⟩ => ⟨j, e, by omega⟩, ext_alloc hb _⟩
          case measure => simp [intOf]; omega
    · obtain rfl : k = xs.length := by omega
      go_wp2
      go_ret
      exact ⟨by rw [HV.out]; rfl, hb⟩
set_option maxHeartbeats 2000000 in
theorem srr_any (A : Option Addr) (c : Nat) (xs : List Ho) (lag : Int) (w : World) (h : SlH w A c xs) :
    Calls Try.prog 45 #[.slice A xs.length c, .int .i64 lag] w fun e w' => e = .returned (.int .i64 (RT xs lag)) ∧ Below w.heap.size w w' := by
  have hmax := h.max
  have hcap := h.cap
  unfold maxLen at hmax
  go_enter Try.func45, Try.ntmps45
  go_wp2
  go_loopw [5, 6] (fun v i wr => ∃ (k : Nat) (b : Int), k ≤ xs.length ∧ i = .int .i64 k ∧ v = .int .i64 b ∧ Hid (b = rte xs lag k) ∧ (b = -1 ∨ ∃ j : Nat, b = (j : Int) ∧ j < k) ∧ Below w.heap.size w wr) (fun v i _ => xs.length - (intOf i).toNat)
  case atStart => exact ⟨0, -1, Nat.zero_le _, rfl, rfl, rfl, .inl rfl, Below.refl _ _⟩
  case round =>
    obtain ⟨k, b, hk, rfl, rfl, HV, hbc, hb⟩ := hrel
    by_cases hlt : k < xs.length
    · obtain ⟨ad, rfl, hbl, hc0, hc1, hc2⟩ := (h.ext hb).at hlt
      have hnext : ∀ b', rstep xs lag b k = b' → Hid (b' = rte xs lag (k + 1)) := fun b' e => by
        show b' = rstep xs lag (rte xs lag k) k
        rw [← HV.out, e]
      cases h1 : xs[k].2.2 with
      | true =>
        rw [h1] at hc2
        have HN := hnext _ (rstep_down hlt h1)
        clear hnext
        go_wp2_with fail
        go_quiet (fail)
        go_wp2
        go_roundw
        case rel => exact ⟨k + 1, _, by omega, by go_num, rfl, HN, hbc.imp id fun ⟨j, e, hj⟩ => ⟨j, e, by omega⟩, below_drewN (ext_alloc hb _) _⟩
        case measure => simp [intOf]; omega
      | false =>
        rw [h1] at hc2
        by_cases h2 : xs[k].2.1 ≤ lag
        · have g2 : decide (xs[k].2.1 ≤ lag) = true := decide_eq_true h2
          have g3 : decide (lag < xs[k].2.1) = false := decide_eq_false (by omega)
          rcases hbc with rfl | ⟨j, rfl, hj⟩
          · have HN := hnext _ (rstep_first hlt h1 h2 (by omega))
            clear hnext
            go_wp2_with fail
            go_quiet (fail)
            go_wp2
            go_roundw
            case rel => exact ⟨k + 1, _, by omega, by go_num, rfl, HN, .inr ⟨k, rfl, by omega⟩, below_drewN (ext_alloc hb _) _⟩
            case measure => simp [intOf]; omega
          · have hjl : j < xs.length := by omega
            have d0 := fun o => (World.cell?_alloc_lt wr o _ (by rw [blk_add]; exact hbl)).trans (slH_at (h.ext hb) rfl hjl)
            have gj : decide ((j : Int) < 0) = false := decide_eq_false (by omega)
            by_cases h3 : xs[k].1 < xs[j].1
            · have g4 : decide (xs[k].1 < xs[j].1) = true := decide_eq_true h3
              have HN := hnext _ (rstep_less hlt hjl h1 h2 h3)
              clear hnext
              go_wp2_with fail
              go_quiet (fail)
              go_wp2
              go_roundw
              case rel => exact ⟨k + 1, _, by omega, by go_num, rfl, HN, .inr ⟨k, rfl, by omega⟩, below_drewN (ext_alloc hb _) _⟩
              case measure => simp [intOf]; omega
            · have g4 : decide (xs[k].1 < xs[j].1) = false := decide_eq_false h3
              by_cases h4 : xs[k].1 = xs[j].1
              · have g5 : (xs[k].1 == xs[j].1) = true := beq_iff_eq.2 h4
                by_cases h5 : j = 0
                · have HN := hnext _ (rstep_zero hlt hjl h1 h2 h4 h5)
                  have g6 : ((j : Int) == 0) = true := beq_iff_eq.2 (by omega)
                  have g7 : (j == 0) = true := beq_iff_eq.2 h5
                  clear hnext h5 h4
                  go_wp2_with fail
                  go_quiet (fail)
                  go_wp2
                  go_roundw
                  case rel => exact ⟨k + 1, _, by omega, by go_num, rfl, HN, .inr ⟨k, rfl, by omega⟩, below_drewN (ext_alloc hb _) _⟩
                  case measure => simp [intOf]; omega
                · have HN := hnext _ (rstep_same hlt hjl h3 (fun h => h5 h.2))
                  have g6 : ((j : Int) == 0) = false := beq_eq_false_iff_ne.2 (by omega)
                  have g7 : (j == 0) = false := beq_eq_false_iff_ne.2 h5
                  clear hnext h5 h4
                  go_wp2_with fail
                  go_quiet (fail)
                  go_wp2
                  go_roundw
                  case rel => exact ⟨k + 1, _, by omega, by go_num, rfl, HN, .inr ⟨j, rfl, by omega⟩, below_drewN (ext_alloc hb _) _⟩
                  case measure => simp [intOf]; omega
              · have g5 : (xs[k].1 == xs[j].1) = false := beq_eq_false_iff_ne.2 h4
                have HN := hnext _ (rstep_same hlt hjl h3 (fun h => h4 h.1))
                clear hnext h4
                go_wp2_with fail
                go_quiet (fail)
                go_wp2
                go_roundw
                case rel => exact ⟨k + 1, _, by omega, by go_num, rfl, HN, .inr ⟨j, rfl, by omega⟩, below_drewN (ext_alloc hb _) _⟩
                case measure => simp [intOf]; omega
        · have g2 : decide (xs[k].2.1 ≤ lag) = false := decide_eq_false h2
          have g3 : decide (lag < xs[k].2.1) = true := decide_eq_true (by omega)
          have HN := hnext _ (rstep_late hlt (by omega))
          clear hnext
          go_wp2_with fail
          go_quiet (fail)
          go_wp2
          go_roundw
          case rel => exact ⟨k + 1, _, by omega, by go_num, rfl, HN, hbc.imp id fun ⟨j, e, hj⟩ => ⟨j, e, by omega⟩, below_drewN (ext_alloc hb _) _⟩
          case measure => simp [intOf]; omega
    · obtain rfl : k = xs.length := by omega
      go_wp2
      go_ret
      exact ⟨by rw [HV.out]; rfl, hb⟩
end Go.Proofs.Ytbpadfeplmmeeaa
