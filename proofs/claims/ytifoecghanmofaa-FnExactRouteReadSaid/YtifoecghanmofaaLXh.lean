/- The walks of the exact laws of ValidHosts, RouteWrite, RouteRead. -/
import Derived.Test.YtifoecghanmofaaExH
import Derived.Test.YtifoecghanmofaaWRr
namespace Go.Proofs.Ytifoecghanmofaa
open Go.RowKit
theorem lft_in {n : Nat} (h : n ≤ 1048576) : ∃ m : Nat, lft 1048576 n = (m : Int) ∧ m ≤ 1048576 := by
  refine ⟨1048576 - n, ?_, by omega⟩
  unfold lft
  split <;> omega
theorem lft_out {n : Nat} (h : ¬ n ≤ 1048576) : lft 1048576 n = -1 := by
  unfold lft
  split <;> omega
set_option maxHeartbeats 1000000 in
theorem lawExactValidHosts (A : Option Addr) (c : Nat) (xs : List Ho) (w : World) (h : SlH w A c xs) :
    Calls Try.prog 4 #[.slice A xs.length c] w fun e w' => e = .returned (.bool true) ∧ Below w.heap.size w w' := by
  have hmax := h.max
  have hcap := h.cap
  unfold maxLen at hmax
  by_cases hn : xs.length ≤ 1048576
  · obtain ⟨m, hm, hm1⟩ := lft_in hn
    have HL := hd hm
    have HS := hd (sameH_self xs)
    have gne : (VH xs != VH xs) = false := by simp
    have hb := Below.refl w.heap.size w
    clear hm
    go_enter Try.func4, Try.ntmps4
    go_wp2_with fail
    refine (szH_any A _ c 1048576 w (by omega) (by decide) (by decide)).mono ?_
    rintro e w' ⟨rfl, rfl⟩
    rw [HL.out]
    go_wp2_with fail
    refine (toHS_any _ _ _ _ h hn).mono ?_
    rintro e w1 ⟨P, p, rfl, r, hx⟩
    replace s := r.sl; replace h := h.ext hx; replace hb := ext_trans hb hx; clear hx
    go_wp2_with fail
    refine (sVH_any _ _ _ _ s).mono ?_
    rintro e w1 ⟨rfl, hx⟩
    replace h := h.ext hx; replace hb := ext_trans hb hx; clear hx
    go_wp2_with fail
    refine (toHS_any _ _ _ _ h hn).mono ?_
    rintro e w1 ⟨Q, q, rfl, r1, hx⟩
    replace s1 := r1.sl; replace h := h.ext hx; replace hb := ext_trans hb hx; clear hx
    go_wp2_with fail
    refine (vh_any _ _ _ _ s1).mono ?_
    rintro e w1 ⟨rfl, hx⟩
    replace h := h.ext hx; replace s1 := s1.ext hx; replace hb := ext_trans hb hx; clear hx
    go_wp2_with fail
    refine (toHS_any _ _ _ _ h hn).mono ?_
    rintro e w1 ⟨R, r, rfl, r2, hx⟩
    replace s2 := r2.sl; replace h := h.ext hx; replace s1 := s1.ext hx; replace hb := ext_trans hb hx; clear hx
    go_wp2_with fail
    refine (eqHS_any _ _ _ _ _ _ _ s1 s2).mono ?_
    rintro e w1 ⟨rfl, hx⟩
    replace hb := ext_trans hb hx; clear hx
    rw [HS.out]
    go_wp2
    go_ret
    exact ⟨rfl, hb⟩
  · have HL := hd (lft_out hn)
    go_enter Try.func4, Try.ntmps4
    go_wp2_with fail
    refine (szH_any A _ c 1048576 w (by omega) (by decide) (by decide)).mono ?_
    rintro e w' ⟨rfl, rfl⟩
    rw [HL.out]
    go_wp2
    go_ret
    exact ⟨rfl, Below.refl _ _⟩
set_option maxHeartbeats 1000000 in
theorem lawExactRouteWrite (A : Option Addr) (c : Nat) (xs : List Ho) (w : World) (h : SlH w A c xs) :
    Calls Try.prog 5 #[.slice A xs.length c] w fun e w' => e = .returned (.bool true) ∧ Below w.heap.size w w' := by
  have hmax := h.max
  have hcap := h.cap
  unfold maxLen at hmax
  by_cases hn : xs.length ≤ 1048576
  · obtain ⟨m, hm, hm1⟩ := lft_in hn
    have HL := hd hm
    have HS := hd (sameH_self xs)
    have gne : (RW xs != RW xs) = false := by simp
    have hb := Below.refl w.heap.size w
    clear hm
    go_enter Try.func5, Try.ntmps5
    go_wp2_with fail
    refine (szH_any A _ c 1048576 w (by omega) (by decide) (by decide)).mono ?_
    rintro e w' ⟨rfl, rfl⟩
    rw [HL.out]
    go_wp2_with fail
    refine (toHS_any _ _ _ _ h hn).mono ?_
    rintro e w1 ⟨P, p, rfl, r, hx⟩
    replace s := r.sl; replace h := h.ext hx; replace hb := ext_trans hb hx; clear hx
    go_wp2_with fail
    refine (sRW_any _ _ _ _ s).mono ?_
    rintro e w1 ⟨rfl, hx⟩
    replace h := h.ext hx; replace hb := ext_trans hb hx; clear hx
    go_wp2_with fail
    refine (toHS_any _ _ _ _ h hn).mono ?_
    rintro e w1 ⟨Q, q, rfl, r1, hx⟩
    replace s1 := r1.sl; replace h := h.ext hx; replace hb := ext_trans hb hx; clear hx
    go_wp2_with fail
    refine (rw_any _ _ _ _ s1).mono ?_
    rintro e w1 ⟨rfl, hx⟩
    replace h := h.ext hx; replace s1 := s1.ext hx; replace hb := ext_trans hb hx; clear hx
    go_wp2_with fail
    refine (toHS_any _ _ _ _ h hn).mono ?_
    rintro e w1 ⟨R, r, rfl, r2, hx⟩
    replace s2 := r2.sl; replace h := h.ext hx; replace s1 := s1.ext hx; replace hb := ext_trans hb hx; clear hx
    go_wp2_with fail
    refine (eqHS_any _ _ _ _ _ _ _ s1 s2).mono ?_
    rintro e w1 ⟨rfl, hx⟩
    replace hb := ext_trans hb hx; clear hx
    rw [HS.out]
    go_wp2
    go_ret
    exact ⟨rfl, hb⟩
  · have HL := hd (lft_out hn)
    go_enter Try.func5, Try.ntmps5
    go_wp2_with fail
    refine (szH_any A _ c 1048576 w (by omega) (by decide) (by decide)).mono ?_
    rintro e w' ⟨rfl, rfl⟩
    rw [HL.out]
    go_wp2
    go_ret
    exact ⟨rfl, Below.refl _ _⟩
set_option maxHeartbeats 1000000 in
theorem lawExactRouteRead (A : Option Addr) (c : Nat) (xs : List Ho) (lag : Int) (w : World) (h : SlH w A c xs) (_ : -9223372036854775808 ≤ lag ∧ lag ≤ 9223372036854775807) :
    Calls Try.prog 10 #[.slice A xs.length c, .int .i64 lag] w fun e w' => e = .returned (.bool true) ∧ Below w.heap.size w w' := by
  have hmax := h.max
  have hcap := h.cap
  unfold maxLen at hmax
  by_cases hn : xs.length ≤ 1048576
  · obtain ⟨m, hm, hm1⟩ := lft_in hn
    have HL := hd hm
    have HS := hd (sameH_self xs)
    have gne : (RR xs lag != RR xs lag) = false := by simp
    have hb := Below.refl w.heap.size w
    clear hm
    go_enter Try.func10, Try.ntmps10
    go_wp2_with fail
    refine (szH_any A _ c 1048576 w (by omega) (by decide) (by decide)).mono ?_
    rintro e w' ⟨rfl, rfl⟩
    rw [HL.out]
    go_wp2_with fail
    refine (toHS_any _ _ _ _ h hn).mono ?_
    rintro e w1 ⟨P, p, rfl, r, hx⟩
    replace s := r.sl; replace h := h.ext hx; replace hb := ext_trans hb hx; clear hx
    go_wp2_with fail
    refine (sRR_any _ _ _ _ _ s).mono ?_
    rintro e w1 ⟨rfl, hx⟩
    replace h := h.ext hx; replace hb := ext_trans hb hx; clear hx
    go_wp2_with fail
    refine (toHS_any _ _ _ _ h hn).mono ?_
    rintro e w1 ⟨Q, q, rfl, r1, hx⟩
    replace s1 := r1.sl; replace h := h.ext hx; replace hb := ext_trans hb hx; clear hx
    go_wp2_with fail
    refine (rr_any _ _ _ _ _ s1).mono ?_
    rintro e w1 ⟨rfl, hx⟩
    replace h := h.ext hx; replace s1 := s1.ext hx; replace hb := ext_trans hb hx; clear hx
    go_wp2_with fail
    refine (toHS_any _ _ _ _ h hn).mono ?_
    rintro e w1 ⟨R, r, rfl, r2, hx⟩
    replace s2 := r2.sl; replace h := h.ext hx; replace s1 := s1.ext hx; replace hb := ext_trans hb hx; clear hx
    go_wp2_with fail
    refine (eqHS_any _ _ _ _ _ _ _ s1 s2).mono ?_
    rintro e w1 ⟨rfl, hx⟩
    replace hb := ext_trans hb hx; clear hx
    rw [HS.out]
    go_wp2
    go_ret
    exact ⟨rfl, hb⟩
  · have HL := hd (lft_out hn)
    go_enter Try.func10, Try.ntmps10
    go_wp2_with fail
    refine (szH_any A _ c 1048576 w (by omega) (by decide) (by decide)).mono ?_
    rintro e w' ⟨rfl, rfl⟩
    rw [HL.out]
    go_wp2
    go_ret
    exact ⟨rfl, Below.refl _ _⟩
end Go.Proofs.Ytifoecghanmofaa
