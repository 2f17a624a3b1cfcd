/- The walk of the exact law of CountPrepares. -/
import Derived.Test.YtjhhacmfhancpaaExCb
import Derived.Test.YtjhhacmfhancpaaWC7
import Derived.Deep.DeepCutAuto
namespace Go.Proofs.Ytjhhacmfhancpaa
open Go.RowKit
set_option maxRecDepth 100000 in
set_option maxHeartbeats 4000000 in
theorem lawExactCountPrepares (t : Int) (A : Option Addr) (c : Nat) (xs : List Int) (L : Option Addr) (l : Nat) (ns : List Int) (w : World) (_ : -9223372036854775808 ≤ t ∧ t ≤ 9223372036854775807) (h : SlI w A c xs) (hn : SlI w L l ns) :
    Calls Try.prog 6 #[.agg #[.int .i64 t, .slice A xs.length c], .slice L ns.length l] w fun e w' => e = .returned (.bool true) ∧ Below w.heap.size w w' := by
  have hmax := h.max
  have hcap := h.cap
  unfold maxLen at hmax
  have hmaxn := hn.max
  have hcapn := hn.cap
  unfold maxLen at hmaxn
  by_cases hi : ns.length ≤ 1048576
  · have HI := hd (sameI_self ns)
    by_cases l1 : xs.length ≤ 1048576
    · obtain ⟨m, hm0, hm1⟩ := lft_in l1
      have HL := hd hm0
      obtain ⟨res, hres⟩ : ∃ res, res = CP t xs ns := ⟨_, rfl⟩
      have AG := hd (fun P p U u w s sn => (cp_any t P p xs U u ns w s sn))
      have SG := hd (fun P p U u w s sn => (scp_any t P p xs U u ns w s sn))
      rw [← hres] at AG SG
      have gb : (res != res) = false := by simp
      clear hm0 hres
      go_enter Try.func6, Try.ntmps6
      go_wp2_with fail
      have bx := Cx.new (e := 24) w (.int .i64 t) (.slice A xs.length c)
      have hb0 : Below w.heap.size w (w.alloc (.cells #[.int .i64 t, .slice A xs.length c] 24)) := ext_alloc (Below.refl _ _) _
      refine (szC_any t A _ c _ (by omega)).mono ?_
      rintro e w1 ⟨rfl, hx⟩
      rw [HL.out]
      have hb := ext_trans hb0 hx
      replace h := h.ext hb; replace hn := hn.ext hb
      replace bx := bx.ext hx
      clear hx hb0
      have c0 := bx.c0; have c1 := bx.c1
      go_wp2_with fail
      refine (toC_any _ _ _ _ _ h l1).mono ?_
      rintro e w2 ⟨P1, p1, rfl, r1, hx⟩
      have s := r1.sl; clear r1 c0 c1
      replace bx := bx.ext hx; replace h := h.ext hx; replace hn := hn.ext hx; replace hb := ext_trans hb hx; clear hx
      go_wp2_with fail
      refine (toIS_any _ _ _ _ hn hi).mono ?_
      rintro e w3 ⟨U1, z1, rfl, r1, hx⟩
      have sn := r1.sl; clear r1
      replace bx := bx.ext hx; replace h := h.ext hx; replace hn := hn.ext hx; replace s := s.ext hx; replace hb := ext_trans hb hx; clear hx
      go_wp2_with fail
      refine (SG.out _ _ _ _ _ s sn).mono ?_
      rintro e w4 ⟨rfl, hx⟩
      clear s sn
      replace bx := bx.ext hx; replace h := h.ext hx; replace hn := hn.ext hx; replace hb := ext_trans hb hx; clear hx
      have c0 := bx.c0; have c1 := bx.c1
      go_wp2_with fail
      refine (toC_any _ _ _ _ _ h l1).mono ?_
      rintro e w5 ⟨X, x, rfl, rx, hx⟩
      have s := rx.sl; clear rx c0 c1
      replace bx := bx.ext hx; replace h := h.ext hx; replace hn := hn.ext hx; replace hb := ext_trans hb hx; clear hx
      go_upto_region 9 with fail
      obtain ⟨W3, hW3⟩ : ∃ W, W = w5.alloc (.cells #[.int .i64 t, .slice X xs.length x] 27) := ⟨_, rfl⟩
      rw [← hW3]
      have hx : Below w5.heap.size w5 W3 := by rw [hW3]; exact ext_alloc (Below.refl _ _) _
      have bq : Cx 27 W3 w5.heap.size (.int .i64 t) (.slice X xs.length x) := by rw [hW3]; exact Cx.new w5 _ _
      clear hW3
      replace bx := bx.ext hx; replace h := h.ext hx; replace hn := hn.ext hx; replace s := s.ext hx; replace hb := ext_trans hb hx; clear hx
      go_wp2_with fail
      refine (toIS_any _ _ _ _ hn hi).mono ?_
      rintro e w6 ⟨V, v, rfl, rv, hx⟩
      have sv := rv.sl; clear rv
      replace bx := bx.ext hx; replace h := h.ext hx; replace hn := hn.ext hx; replace bq := bq.ext hx; replace s := s.ext hx; replace hb := ext_trans hb hx; clear hx
      have c0 := bq.c0; have c1 := bq.c1
      go_wp2_with fail
      refine (AG.out _ _ _ _ _ s sv).mono ?_
      rintro e w7 ⟨rfl, hx⟩
      clear c0 c1
      replace bx := bx.ext hx; replace h := h.ext hx; replace hn := hn.ext hx; replace bq := bq.ext hx; replace s := s.ext hx; replace sv := sv.ext hx; replace hb := ext_trans hb hx; clear hx
      go_upto_region 13 with fail
      go_cut [37] (fun s wx => s = .bool false ∧ Below w7.heap.size w7 wx)
      case first =>
        have hx : Below w7.heap.size w7 w7.drew := ext_drew (Below.refl _ _)
        have hq := hx
        have a := h.ext hx; have v0 := s.ext hx; have bX := bx.ext hx; have bQ := bq.ext hx
        have c0 := bX.c0; have c1 := bX.c1; have y0 := bQ.c0; have y1 := bQ.c1
        clear h s bx bq hb hx sv hn
        go_region_with (first | ((with_reducible refine (toC_any t A c xs _ a l1).mono ?_); rintro e wp ⟨R, r, rfl, r1, hx⟩; have k := r1.sl; replace y0 := (bQ.ext hx).c0; replace y1 := (bQ.ext hx).c1; replace v0 := v0.ext hx; replace hq := ext_trans hq hx; clear hx r1) | ((with_reducible refine (eqC_same t _ _ xs _ _ _ v0 k).mono ?_); rintro e wq ⟨rfl, hx⟩; replace hq := ext_trans hq hx; clear hx) | fail)
        all_goals (go_wp2_with fail; go_meet; exact ⟨rfl, hq⟩)
      case rest =>
        obtain ⟨rfl, hx⟩ := hcut
        replace bx := bx.ext hx; replace h := h.ext hx; replace hn := hn.ext hx; replace bq := bq.ext hx; replace s := s.ext hx; replace sv := sv.ext hx; replace hb := ext_trans hb hx; clear hx
        go_wp2_with fail
        refine (toIS_any _ _ _ _ hn hi).mono ?_
        rintro e w9 ⟨Y, y, rfl, ry, hx⟩
        have sy := ry.sl; clear ry
        replace bx := bx.ext hx; replace h := h.ext hx; replace hn := hn.ext hx; replace bq := bq.ext hx; replace s := s.ext hx; replace sv := sv.ext hx; replace hb := ext_trans hb hx; clear hx
        go_wp2_with fail
        refine (eqIS_any _ _ _ _ _ _ _ sv sy).mono ?_
        rintro e w10 ⟨rfl, hx⟩
        rw [HI.out]
        have FIN := hd (ext_trans hb hx)
        clear h s bx bq hb hx sv sy hn
        go_wp2
        go_ret
        exact ⟨rfl, FIN.out⟩
    · have HL := hd (lft_out l1)
      go_enter Try.func6, Try.ntmps6
      go_wp2_with fail
      have hb0 : Below w.heap.size w (w.alloc (.cells #[.int .i64 t, .slice A xs.length c] 24)) := ext_alloc (Below.refl _ _) _
      refine (szC_any t A _ c _ (by omega)).mono ?_
      rintro e w' ⟨rfl, hx⟩
      rw [HL.out]
      go_wp2
      go_ret
      exact ⟨rfl, ext_trans hb0 hx⟩
  · go_enter Try.func6, Try.ntmps6
    go_wp2
    go_ret
    exact ⟨rfl, ext_alloc (Below.refl _ _) _⟩
end Go.Proofs.Ytjhhacmfhancpaa
