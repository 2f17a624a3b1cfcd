/- The walk of laws.FnValidHosts. -/
import Derived.Test.YtifoecghanmofaaWVh
import Derived.Test.YtifoecghanmofaaDrH
namespace Go.Proofs.Ytifoecghanmofaa
open Go.RowKit
set_option maxHeartbeats 1000000 in
theorem lawValidHosts (A : Option Addr) (n c : Nat) (w : World) (h : SlB w A n c) :
    Calls Try.prog 3 #[.slice A n c] w fun e w' => e = .returned (.bool true) ∧ Below w.heap.size w w' := by
  have hmax := h.2.1
  have hcap := h.1
  unfold maxLen at hmax
  by_cases hn : 1048576 < n
  · go_enter Try.func3, Try.ntmps3
    go_wp2
    go_ret
    exact ⟨rfl, Below.refl _ _⟩
  · go_enter Try.func3, Try.ntmps3
    go_wp2_with fail
    refine (drawValidHosts_any A n c w h).mono ?_
    rintro e w1 ⟨B, d, ys, rfl, hs, hl1, hl, hb1⟩
    have hbm := hs.max
    have hbc := hs.cap
    unfold maxLen at hbm
    go_wp2_with fail
    refine (vh_any B d ys w1 hs).mono ?_
    rintro e w2 ⟨rfl, hx2⟩
    have hs2 := hs.ext hx2
    have hb2 := ext_trans hb1 hx2
    clear hs hx2 hb1
    cases hv : VH ys with
    | true =>
      have hvl := VH_len hv
      by_cases h2 : ys.length < 2
      · go_wp2_with fail
        refine (sVH_any B d ys w2 hs2).mono ?_
        rintro e w3 ⟨rfl, hx3⟩
        have hs3 := hs2.ext hx3
        have hb3 := ext_trans hb2 hx3
        clear hs2 hx3 hb2
        go_wp2_with fail
        refine (sVH_any B d ys w3 hs3).mono ?_
        rintro e w4 ⟨rfl, hx4⟩
        have hb4 := ext_trans hb3 hx4
        go_wp2
        go_ret
        exact ⟨rfl, hb4⟩
      · obtain ⟨m, hm⟩ : ∃ m : Nat, m + 1 = ys.length := ⟨ys.length - 1, by omega⟩
        have hmi : (ys.length : Int) - 1 = (m : Int) := by omega
        have hmd : m ≤ d := by omega
        have hm1 : 1 ≤ m := by omega
        have h1d : 1 ≤ d := by omega
        have HV1 := hd (VH_take hv m hm1)
        have HV2 := hd (VH_take hv 1 (Nat.le_refl _))
        have HL1 := hd (show m = (ys.take m).length by rw [List.length_take]; omega)
        have HL2 := hd (show 1 = (ys.take 1).length by rw [List.length_take]; omega)
        have hms : m ≤ ys.length := by omega
        go_wp2_with fail
        refine (sVH_any B d ys w2 hs2).mono ?_
        rintro e w3 ⟨rfl, hx3⟩
        have hs3 := hs2.ext hx3
        have hb3 := ext_trans hb2 hx3
        clear hs2 hx3 hb2
        go_wp2_with fail
        refine (vhN_any B m d (ys.take m) w3 (hs3.take hms) HL1.out).mono ?_
        rintro e w4 ⟨rfl, hx4⟩
        have hs4 := hs3.ext hx4
        have hb4 := ext_trans hb3 hx4
        clear hs3 hx4 hb3
        rw [HV1.out]
        go_wp2_with fail
        refine (vhN_any B 1 d (ys.take 1) w4 (hs4.take hl1) HL2.out).mono ?_
        rintro e w5 ⟨rfl, hx5⟩
        have hs5 := hs4.ext hx5
        have hb5 := ext_trans hb4 hx5
        clear hs4 hx5 hb4
        rw [HV2.out]
        have l0 : (ys[0].2.1 == 0) = true := by rw [← lag0_at hl1]; exact VH_lag hv
        obtain ⟨ad, rfl, hbl, hc0, hc1, hc2⟩ := hs5.at0 hl1
        go_wp2
        go_ret
        exact ⟨rfl, hb5⟩
    | false =>
      go_wp2_with fail
      refine (sVH_any B d ys w2 hs2).mono ?_
      rintro e w3 ⟨rfl, hx3⟩
      have hs3 := hs2.ext hx3
      have hb3 := ext_trans hb2 hx3
      clear hs2 hx3 hb2
      go_wp2_with fail
      refine (sVH_any B d ys w3 hs3).mono ?_
      rintro e w4 ⟨rfl, hx4⟩
      have hb4 := ext_trans hb3 hx4
      go_wp2
      go_ret
      exact ⟨rfl, hb4⟩
end Go.Proofs.Ytifoecghanmofaa
