/- The walk of laws.FnRouteWrite. -/
import Derived.Test.YtifoecghanmofaaWRr
import Derived.Test.YtifoecghanmofaaDrH
namespace Go.Proofs.Ytifoecghanmofaa
open Go.RowKit
theorem RR_zero {xs : List Ho} (h : VH xs = true) (h0 : 0 < xs.length) (hd0 : xs[0].2.2 = false) : 0 ≤ RR xs 0 := by
  rw [RR_ok h (by decide)]
  by_cases hb : RT xs 0 < 0
  · refine absurd ?_ ((best_RT xs 0).none hb |>.2 0 h0)
    have := VH_lag h
    rw [lag0_at h0, beq_iff_eq] at this
    exact ⟨h0, hd0, by omega⟩
  · omega
set_option maxHeartbeats 1000000 in
theorem lawRouteWrite (A : Option Addr) (n c : Nat) (w : World) (h : SlB w A n c) :
    Calls Try.prog 6 #[.slice A n c] w fun e w' => e = .returned (.bool true) ∧ Below w.heap.size w w' := by
  have hmax := h.2.1
  have hcap := h.1
  unfold maxLen at hmax
  by_cases hn : 1048576 < n
  · go_enter Try.func6, Try.ntmps6
    go_wp2
    go_ret
    exact ⟨rfl, Below.refl _ _⟩
  · go_enter Try.func6, Try.ntmps6
    go_wp2_with fail
    refine (drawRouteWrite_any A n c w h).mono ?_
    rintro e w1 ⟨B, d, ys, rfl, hs, hl1, hl, hb1⟩
    have hbm := hs.max
    have hbc := hs.cap
    unfold maxLen at hbm
    go_wp2_with fail
    refine (rw_any B d ys w1 hs).mono ?_
    rintro e w2 ⟨rfl, hx2⟩
    have hs2 := hs.ext hx2
    have hb2 := ext_trans hb1 hx2
    clear hs hx2 hb1
    go_wp2_with fail
    refine (sRW_any B d ys w2 hs2).mono ?_
    rintro e w3 ⟨rfl, hx3⟩
    have hs3 := hs2.ext hx3
    have hb3 := ext_trans hb2 hx3
    clear hs2 hx3 hb2
    have gne : (RW ys != RW ys) = false := by simp
    have geq : (RW ys == RW ys) = true := by simp
    cases hv : VH ys with
    | true =>
      cases h2 : ys[0].2.2 with
      | true =>
        have HR := RW_no2 hl1 h2
        rw [HR]
        rw [HR] at gne geq
        go_wp2_with fail
        refine (vh_any B d ys w3 hs3).mono ?_
        rintro e w4 ⟨rfl, hx4⟩
        have hs4 := hs3.ext hx4
        have hb4 := ext_trans hb3 hx4
        clear hs3 hx4 hb3
        rw [hv]
        obtain ⟨ad, rfl, hbl, hc0, hc1, hc2⟩ := hs4.at0 hl1
        rw [h2] at hc2
        go_wp2
        go_ret
        exact ⟨rfl, hb4⟩
      | false =>
        have HR := RW_ok hv hl1 h2
        have HZ := RR_zero hv hl1 h2
        have gz : decide (0 ≤ RR ys 0) = true := decide_eq_true HZ
        rw [HR]
        rw [HR] at gne geq
        go_wp2_with fail
        refine (vh_any B d ys w3 hs3).mono ?_
        rintro e w4 ⟨rfl, hx4⟩
        have hs4 := hs3.ext hx4
        have hb4 := ext_trans hb3 hx4
        clear hs3 hx4 hb3
        rw [hv]
        obtain ⟨ad, rfl, hbl, hc0, hc1, hc2⟩ := hs4.at0 hl1
        rw [h2] at hc2
        go_wp2_with fail
        refine (rr_any (some ad) d ys 0 w4 hs4).mono ?_
        rintro e w5 ⟨rfl, hx5⟩
        have hb5 := ext_trans hb4 hx5
        go_wp2
        go_ret
        exact ⟨rfl, hb5⟩
    | false =>
      have HR := RW_no1 hv
      rw [HR]
      rw [HR] at gne geq
      go_wp2_with fail
      refine (vh_any B d ys w3 hs3).mono ?_
      rintro e w4 ⟨rfl, hx4⟩
      have hs4 := hs3.ext hx4
      have hb4 := ext_trans hb3 hx4
      clear hs3 hx4 hb3
      rw [hv]
      go_wp2_with fail
      refine (sRW_any B d ys w4 hs4).mono ?_
      rintro e w5 ⟨rfl, hx5⟩
      have hb5 := ext_trans hb4 hx5
      rw [HR]
      go_wp2
      go_ret
      exact ⟨rfl, hb5⟩
end Go.Proofs.Ytifoecghanmofaa
