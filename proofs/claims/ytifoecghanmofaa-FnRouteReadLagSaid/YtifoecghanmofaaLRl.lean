/- The walk of laws.FnRouteReadLag. -/
import Derived.Test.YtifoecghanmofaaPRr
import Derived.Test.YtifoecghanmofaaDrH
namespace Go.Proofs.Ytifoecghanmofaa
open Go.RowKit
set_option maxRecDepth 100000 in
set_option maxHeartbeats 1000000 in
theorem lawRouteReadLag (A : Option Addr) (n c : Nat) (w : World) (h : SlB w A n c) :
    Calls Try.prog 8 #[.slice A n c] w fun e w' => e = .returned (.bool true) ∧ Below w.heap.size w w' := by
  have hmax := h.2.1
  have hcap := h.1
  unfold maxLen at hmax
  by_cases hn : 1048576 < n
  · go_enter Try.func8, Try.ntmps8
    go_wp2
    go_ret
    exact ⟨rfl, Below.refl _ _⟩
  · go_enter Try.func8, Try.ntmps8
    go_wp2_with fail
    refine (drawRouteRead_any A n c w h).mono ?_
    rintro e w1 ⟨B, d, ys, lag, rfl, hs, hl1, hl, hlag, hb1⟩
    have hlb : -1 ≤ lag ∧ lag ≤ 1001 := by
      simp only [List.mem_cons, List.not_mem_nil, or_false] at hlag
      omega
    clear hlag
    have hbm := hs.max
    have hbc := hs.cap
    unfold maxLen at hbm
    go_wp2_with fail
    refine (rr_any B d ys lag w1 hs).mono ?_
    rintro e w2 ⟨rfl, hx2⟩
    have hs2 := hs.ext hx2
    have hb2 := ext_trans hb1 hx2
    clear hs hx2 hb1
    go_wp2_with fail
    refine (sRR_any B d ys lag w2 hs2).mono ?_
    rintro e w3 ⟨rfl, hx3⟩
    have hs3 := hs2.ext hx3
    have hb3 := ext_trans hb2 hx3
    clear hs2 hx3 hb2
    have gne : (RR ys lag != RR ys lag) = false := by simp
    have geq : (RR ys lag == RR ys lag) = true := by simp
    by_cases hq : RR ys lag < 0
    · have g1 : decide (RR ys lag < 0) = true := decide_eq_true hq
      go_wp2_with fail
      refine (sRR_any B d ys lag w3 hs3).mono ?_
      rintro e w4 ⟨rfl, hx4⟩
      have hb4 := ext_trans hb3 hx4
      go_wp2
      go_ret
      refine ⟨?_, hb4⟩
      rfl
    · obtain ⟨m, hm⟩ : ∃ m : Nat, RR ys lag = (m : Int) := ⟨(RR ys lag).toNat, by omega⟩
      have hsome := RR_some (xs := ys) (lag := lag) (by omega)
      have hml := ((best_RT ys lag).some m (by rw [← hsome.2.2]; exact hm)).1
      have hlg := inB_iff.1 hsome.2.1
      by_cases h1 : lag = 1000
      · have g2 : (lag == 1000) = true := beq_iff_eq.2 h1
        have HM := hd hm
        clear hsome
        rw [hm] at gne geq
        rw [hm]
        clear hm h1 hlg
        go_wp2_with fail
        refine (sRR_any B d ys lag w3 hs3).mono ?_
        rintro e w4 ⟨rfl, hx4⟩
        rw [HM.out]
        have hb4 := ext_trans hb3 hx4
        go_wp2
        go_ret
        refine ⟨?_, hb4⟩
        rfl
      · have g2 : (lag == 1000) = false := beq_eq_false_iff_ne.2 h1
        obtain ⟨k, hk, hkl, hle⟩ := RR_more hm h1
        have hkl := hkl
        rw [ldo_at hkl, ldo_at hml] at hle
        have g3 : decide (ys[k].1 ≤ ys[m].1) = true := decide_eq_true hle
        have hw : IntKind.i64.wrap (lag + 1) = lag + 1 := by rw [IntKind.wrap_i64]; omega
        have HK := hd hk
        clear hk
        rw [hm] at gne geq
        rw [hm]
        clear hm hsome hle h1
        go_wp2_with fail
        refine (rr_any B d ys (lag + 1) w3 hs3).mono ?_
        rintro e w4 ⟨rfl, hx4⟩
        rw [HK.out]
        have hs4 := hs3.ext hx4
        have hb4 := ext_trans hb3 hx4
        obtain ⟨ad, rfl, hbl, hc0, hc1, hc2⟩ := hs4.at hkl
        have d0 := slH_at hs4 rfl hml
        go_wp2_with fail
        go_quiet (fail)
        go_wp2
        go_ret
        exact ⟨rfl, below_drewN hb4 _⟩
end Go.Proofs.Ytifoecghanmofaa
