/- Contracts: RouteRead and RouteWrite of both. -/
import Derived.Test.YtbpadfeplmmeeaaWRt
namespace Go.Proofs.Ytbpadfeplmmeeaa
open Go.RowKit
theorem RR_ok {xs : List Ho} {lag : Int} (h : VH xs = true) (h1 : inB lag 0 1000 = true) : RR xs lag = RT xs lag := if_pos ⟨h, h1⟩
theorem RR_no1 {xs : List Ho} {lag : Int} (h : VH xs = false) : RR xs lag = -1 := if_neg fun h' => by rw [h] at h'; cases h'.1
theorem RR_no2 {xs : List Ho} {lag : Int} (h : inB lag 0 1000 = false) : RR xs lag = -1 := if_neg fun h' => by rw [h] at h'; cases h'.2
theorem getD_zero {xs : List Ho} (h : 0 < xs.length) : xs.getD 0 (0, 0, false) = xs[0] := by simp [List.getD_eq_getElem?_getD, List.getElem?_eq_getElem h]
theorem RW_ok {xs : List Ho} (h : VH xs = true) (h0 : 0 < xs.length) (h1 : xs[0].2.2 = false) : RW xs = 0 := if_pos ⟨h, by rw [getD_zero h0]; exact h1⟩
theorem RW_no1 {xs : List Ho} (h : VH xs = false) : RW xs = -1 := if_neg fun h' => by rw [h] at h'; cases h'.1
theorem RW_no2 {xs : List Ho} (h0 : 0 < xs.length) (h1 : xs[0].2.2 = true) : RW xs = -1 := if_neg fun h' => by rw [getD_zero h0, h1] at h'; cases h'.2
set_option maxHeartbeats 1000000 in
theorem rr_any (A : Option Addr) (c : Nat) (xs : List Ho) (lag : Int) (w : World) (h : SlH w A c xs) :
    Calls Try.prog 24 #[.slice A xs.length c, .int .i64 lag] w fun e w' => e = .returned (.int .i64 (RR xs lag)) ∧ Below w.heap.size w w' := by
  cases h1 : VH xs with
  | true =>
    cases h2 : inB lag 0 1000 with
    | true =>
      have HR := hd (RR_ok h1 h2)
      go_enter Try.func24, Try.ntmps24
      go_wp2_with fail
      refine (vh_any A c xs w h).mono ?_
      rintro e w1 ⟨rfl, hx1⟩
      go_wp2_with (go_at_call 38; refine (isTime_any _ _).mono ?_; rintro e w2 ⟨rfl, rfl⟩)
      refine (route_any A c xs lag _ (h.ext hx1)).mono ?_
      rintro e w3 ⟨rfl, hx3⟩
      have hb3 := ext_trans hx1 hx3
      go_wp2
      go_ret
      exact ⟨by rw [HR.out]; rfl, hb3⟩
    | false =>
      have HR := hd (RR_no2 (xs := xs) h2)
      go_enter Try.func24, Try.ntmps24
      go_wp2_with fail
      refine (vh_any A c xs w h).mono ?_
      rintro e w1 ⟨rfl, hx1⟩
      go_wp2_with (go_at_call 38; refine (isTime_any _ _).mono ?_; rintro e w2 ⟨rfl, rfl⟩)
      go_ret
      exact ⟨by rw [HR.out]; rfl, hx1⟩
  | false =>
    have HR := hd (RR_no1 (lag := lag) h1)
    go_enter Try.func24, Try.ntmps24
    go_wp2_with fail
    refine (vh_any A c xs w h).mono ?_
    rintro e w1 ⟨rfl, hx1⟩
    go_wp2
    go_ret
    exact ⟨by rw [HR.out]; rfl, hx1⟩
end Go.Proofs.Ytbpadfeplmmeeaa
