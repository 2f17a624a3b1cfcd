/- The walk of the exact law of NextOwner. -/
import Derived.Test.YtgoeeojlholegaaExSh
import Derived.Test.YtgoeeojlholegaaWSg
namespace Go.Proofs.Ytgoeeojlholegaa
open Go.RowKit
set_option maxHeartbeats 1000000 in
theorem lawExactNextOwner (t : Int) (A : Option Addr) (c : Nat) (xs : List Int) (B : Option Addr) (d : Nat) (ys : List Int) (E : Option Addr) (f : Nat) (asks : List Int) (w : World) (_ : -9223372036854775808 ≤ t ∧ t ≤ 9223372036854775807) (h : SlI w A c xs) (h' : SlI w B d ys) (ha : SlI w E f asks) :
    Calls Try.prog 4 #[.agg #[.int .i64 t, .slice A xs.length c, .slice B ys.length d], .slice E asks.length f] w fun e w' => e = .returned (.bool true) ∧ Below w.heap.size w w' := by
  have hmax := h.max
  have hcap := h.cap
  have hmax' := h'.max
  have hcap' := h'.cap
  have hmaxa := ha.max
  have hcapa := ha.cap
  unfold maxLen at hmax hmax' hmaxa
  have hb := Below.refl w.heap.size w
  by_cases hm : asks.length ≤ 1048576
  · by_cases hn : xs.length ≤ 1048576 ∧ xs.length + ys.length ≤ 1048576
    · obtain ⟨m, hm0, hm1⟩ := lft2_in hn.1 hn.2
      have HL := hd hm0
      have l1 := hn.1
      have l2 : ys.length ≤ 1048576 := by omega
      have gne : (NO t xs ys asks != NO t xs ys asks) = false := by simp
      have HS := hd (sameI_self asks)
      clear hn hm0
      go_enter Try.func4, Try.ntmps4
      go_wp2_with fail
      have bx := Bt.new (e := 24) w (.int .i64 t) (.slice A xs.length c) (.slice B ys.length d)
      have hb0 : Below w.heap.size w (w.alloc (.cells #[.int .i64 t, .slice A xs.length c, .slice B ys.length d] 24)) := ext_alloc (Below.refl _ _) _
      refine (szSh_any t A _ c B _ d _ (by omega) (by omega)).mono ?_
      rintro e w' ⟨rfl, hx⟩
      rw [HL.out]
      have hb := ext_trans hb0 hx
      have h := h.ext hb
      have bx := bx.ext hx
      have c0 := bx.c0
      have c1 := bx.c1
      have c2 := bx.c2
      have h' := h'.ext hb
      have ha := ha.ext hb
      clear hx hb0
      go_wp2_with fail
      refine (toSh_any _ _ _ _ _ _ _ _ h h' l1 l2).mono ?_
      rintro e w1 ⟨P, p, Q, q, rfl, r1, r2, -, hx⟩
      replace s := r1.sl; replace s' := r2.sl; replace c0 := (bx.ext hx).c0; replace c1 := (bx.ext hx).c1; replace c2 := (bx.ext hx).c2; replace bx := bx.ext hx; replace h := h.ext hx; replace h' := h'.ext hx; replace ha := ha.ext hx; replace hb := ext_trans hb hx; clear hx
      go_wp2_with fail
      refine (toIS_any _ _ _ _ ha hm).mono ?_
      rintro e w1 ⟨U, u, rfl, r1, hx⟩
      replace sa := r1.sl; replace c0 := (bx.ext hx).c0; replace c1 := (bx.ext hx).c1; replace c2 := (bx.ext hx).c2; replace bx := bx.ext hx; replace h := h.ext hx; replace h' := h'.ext hx; replace ha := ha.ext hx; replace s := s.ext hx; replace s' := s'.ext hx; replace hb := ext_trans hb hx; clear hx
      go_wp2_with fail
      refine (sno_any _ _ _ _ _ _ _ _ _ _ _ s s' sa).mono ?_
      rintro e w1 ⟨rfl, hx⟩
      replace c0 := (bx.ext hx).c0; replace c1 := (bx.ext hx).c1; replace c2 := (bx.ext hx).c2; replace bx := bx.ext hx; replace h := h.ext hx; replace h' := h'.ext hx; replace ha := ha.ext hx; replace hb := ext_trans hb hx; clear hx
      go_wp2_with fail
      refine (toSh_any _ _ _ _ _ _ _ _ h h' l1 l2).mono ?_
      rintro e w1 ⟨P, p, Q, q, rfl, r1, r2, -, hx⟩
      replace s := r1.sl; replace s' := r2.sl; replace c0 := (bx.ext hx).c0; replace c1 := (bx.ext hx).c1; replace c2 := (bx.ext hx).c2; replace bx := bx.ext hx; replace h := h.ext hx; replace h' := h'.ext hx; replace ha := ha.ext hx; replace hb := ext_trans hb hx; clear hx
      go_wp2_with fail
      have hx : Below w1.heap.size w1 (w1.alloc (.cells #[.int .i64 t, .slice P xs.length p, .slice Q ys.length q] 27)) := ext_alloc (Below.refl _ _) _
      have bq := Bt.new (e := 27) w1 (.int .i64 t) (.slice P xs.length p) (.slice Q ys.length q)
      replace c0 := (bx.ext hx).c0; replace c1 := (bx.ext hx).c1; replace c2 := (bx.ext hx).c2; replace bx := bx.ext hx; replace h := h.ext hx; replace h' := h'.ext hx; replace ha := ha.ext hx; replace s := s.ext hx; replace s' := s'.ext hx; replace hb := ext_trans hb hx; clear hx
      refine (toIS_any _ _ _ _ ha hm).mono ?_
      rintro e w1 ⟨U, u, rfl, r1, hx⟩
      have sa := r1.sl
      replace c0 := (bx.ext hx).c0; replace c1 := (bx.ext hx).c1; replace c2 := (bx.ext hx).c2; replace y0 := (bq.ext hx).c0; replace y1 := (bq.ext hx).c1; replace y2 := (bq.ext hx).c2; replace bx := bx.ext hx; replace bq := bq.ext hx; replace h := h.ext hx; replace h' := h'.ext hx; replace ha := ha.ext hx; replace s := s.ext hx; replace s' := s'.ext hx; replace hb := ext_trans hb hx; clear hx
      go_wp2_with fail
      refine (no_any _ _ _ _ _ _ _ _ _ _ _ s s' sa).mono ?_
      rintro e w1 ⟨rfl, hx⟩
      replace c0 := (bx.ext hx).c0; replace c1 := (bx.ext hx).c1; replace c2 := (bx.ext hx).c2; replace y0 := (bq.ext hx).c0; replace y1 := (bq.ext hx).c1; replace y2 := (bq.ext hx).c2; replace bx := bx.ext hx; replace bq := bq.ext hx; replace h := h.ext hx; replace h' := h'.ext hx; replace ha := ha.ext hx; replace s := s.ext hx; replace s' := s'.ext hx; replace sa := sa.ext hx; replace hb := ext_trans hb hx; clear hx
      go_wp2_with fail
      have hx : Below w1.heap.size w1 w1.drew := ext_drew (Below.refl _ _)
      replace c0 := (bx.ext hx).c0; replace c1 := (bx.ext hx).c1; replace c2 := (bx.ext hx).c2; replace y0 := (bq.ext hx).c0; replace y1 := (bq.ext hx).c1; replace y2 := (bq.ext hx).c2; replace bq := bq.ext hx; replace h := h.ext hx; replace h' := h'.ext hx; replace ha := ha.ext hx; replace s := s.ext hx; replace s' := s'.ext hx; replace sa := sa.ext hx; replace hb := ext_trans hb hx; clear hx bx
      go_region_with (first | ((with_reducible refine (toSh_any t A c xs B d ys _ h h' l1 l2).mono ?_); rintro e w7 ⟨R, r, S, z, rfl, r1, r2, -, hx⟩; have k := r1.sl; have k' := r2.sl; replace y0 := (bq.ext hx).c0; replace y1 := (bq.ext hx).c1; replace y2 := (bq.ext hx).c2; replace s := s.ext hx; replace s' := s'.ext hx; replace sa := sa.ext hx; replace ha := ha.ext hx; replace hb := ext_trans hb hx; clear hx r1 r2) | ((with_reducible refine (eqSh_same t _ _ xs _ _ ys _ _ _ _ _ s s' k k').mono ?_); rintro e w8 ⟨rfl, hx⟩; replace sa := sa.ext hx; replace ha := ha.ext hx; replace hb := ext_trans hb hx; clear hx) | fail)
      all_goals
        go_wp2_with fail
        refine (toIS_any _ _ _ _ ha hm).mono ?_
        rintro e w1 ⟨V, v, rfl, r1, hx⟩
        replace ka := r1.sl; replace sa := sa.ext hx; replace hb := ext_trans hb hx; clear hx
        go_wp2_with fail
        refine (eqIS_any _ _ _ _ _ _ _ sa ka).mono ?_
        rintro e w1 ⟨rfl, hx⟩
        replace hb := ext_trans hb hx; clear hx
        rw [HS.out]
        go_wp2
        go_ret
        exact ⟨rfl, hb⟩
    · have HL := hd (lft2_out hn)
      go_enter Try.func4, Try.ntmps4
      go_wp2_with fail
      have bx := Bt.new (e := 24) w (.int .i64 t) (.slice A xs.length c) (.slice B ys.length d)
      have hb0 : Below w.heap.size w (w.alloc (.cells #[.int .i64 t, .slice A xs.length c, .slice B ys.length d] 24)) := ext_alloc (Below.refl _ _) _
      refine (szSh_any t A _ c B _ d _ (by omega) (by omega)).mono ?_
      rintro e w' ⟨rfl, hx⟩
      rw [HL.out]
      go_wp2
      go_ret
      exact ⟨rfl, ext_trans hb0 hx⟩
  · go_enter Try.func4, Try.ntmps4
    go_wp2
    go_ret
    exact ⟨rfl, ext_alloc hb _⟩
end Go.Proofs.Ytgoeeojlholegaa
