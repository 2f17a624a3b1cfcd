/- The walk of the exact law of DropStatement. -/
import Derived.Test.YtjhhacmfhancpaaExCb
import Derived.Test.YtjhhacmfhancpaaWC6
import Derived.Deep.DeepCutAuto
namespace Go.Proofs.Ytjhhacmfhancpaa
open Go.RowKit
theorem caV_of (t : Int) (xs : List Int) (v : Int) : ∃ (t' : Int) (us : List Int) (b : Bool), us.length ≤ xs.length + 1 ∧ ∀ w e w', CaD (DRP t xs v) t w e w' → CaB us t' b w e w' := by
  by_cases h : VCa t xs = true ∧ hasB xs v = true
  · refine ⟨t, lv xs v, true, ?_, fun w e w' hh => ?_⟩
    · have := lv_len xs v
      omega
    · rw [DRP_ok h.1 h.2] at hh; exact hh
  · refine ⟨0, [], false, by simp, fun w e w' hh => ?_⟩
    rw [show DRP t xs v = none from if_neg h] at hh
    obtain ⟨rfl, hb⟩ := hh
    exact ⟨none, 0, rfl, rwI_nil _ _ _ _ (by decide), hb⟩
set_option maxRecDepth 100000 in
set_option maxHeartbeats 4000000 in
theorem lawExactDropStatement (t : Int) (A : Option Addr) (c : Nat) (xs : List Int) (v : Int) (w : World) (_ : -9223372036854775808 ≤ t ∧ t ≤ 9223372036854775807) (h : SlI w A c xs) (_ : -9223372036854775808 ≤ v ∧ v ≤ 9223372036854775807) :
    Calls Try.prog 4 #[.agg #[.int .i64 t, .slice A xs.length c], .int .i64 v] w fun e w' => e = .returned (.bool true) ∧ Below w.heap.size w w' := by
  have hmax := h.max
  have hcap := h.cap
  unfold maxLen at hmax
  by_cases l1 : xs.length ≤ 1048576
  · obtain ⟨m, hm0, hm1⟩ := lft_in l1
    have HL := hd hm0
    obtain ⟨t', us, b, hu, hG⟩ := caV_of t xs v
    have gb : (b != b) = false := by simp
    have GV := hd (fun P p w s => (dr_any t P p xs v w s).mono (hG w))
    have SG := hd (fun P p w s => (sdr_any t P p xs v w s).mono (hG w))
    obtain ⟨k1, e1⟩ : ∃ k1, k1 = 1 + xs.length := ⟨_, rfl⟩
    obtain ⟨n1, f1⟩ : ∃ n1, n1 = 1 + us.length := ⟨_, rfl⟩
    have b2 : k1 ≤ 4611686018427387904 := by omega
    have d2 : n1 ≤ 4611686018427387904 := by omega
    have gn : ((n1 : Int) != (n1 : Int)) = false := by simp
    have E := hd (And.intro e1 f1)
    clear hm0 hG e1 f1
    go_enter Try.func4, Try.ntmps4
    go_wp2_with fail
    have bx := Cx.new (e := 24) w (.int .i64 t) (.slice A xs.length c)
    have hb0 : Below w.heap.size w (w.alloc (.cells #[.int .i64 t, .slice A xs.length c] 24)) := ext_alloc (Below.refl _ _) _
    refine (szC_any t A _ c _ (by omega)).mono ?_
    rintro e w1 ⟨rfl, hx⟩
    rw [HL.out]
    have hb := ext_trans hb0 hx
    replace h := h.ext hb
    replace bx := bx.ext hx
    clear hx hb0
    have c0 := bx.c0; have c1 := bx.c1
    go_wp2_with fail
    refine (toC_any _ _ _ _ _ h l1).mono ?_
    rintro e w2 ⟨P1, p1, rfl, r1, hx⟩
    clear c0 c1
    have s := r1.sl; clear r1
    replace bx := bx.ext hx; replace h := h.ext hx; replace hb := ext_trans hb hx; clear hx
    go_wp2_with fail
    refine (SG.out P1 p1 _ s).mono ?_
    rintro e w3 ⟨P, p, rfl, r1, hx⟩
    have k := r1.sl; clear r1 s
    replace bx := bx.ext hx; replace h := h.ext hx; replace hb := ext_trans hb hx; clear hx
    go_upto_region 6 with fail
    obtain ⟨W2, hW2⟩ : ∃ W, W = w3.alloc (.cells #[.int .i64 t', .slice P us.length p] 27) := ⟨_, rfl⟩
    rw [← hW2]
    have hx : Below w3.heap.size w3 W2 := by rw [hW2]; exact ext_alloc (Below.refl _ _) _
    have bw : Cx 27 W2 w3.heap.size (.int .i64 t') (.slice P us.length p) := by rw [hW2]; exact Cx.new w3 _ _
    clear hW2
    replace bx := bx.ext hx; replace h := h.ext hx; replace k := k.ext hx
    replace hb := ext_trans hb hx; clear hx
    have H2 := hd (And.intro hb (And.intro bx (And.intro bw (And.intro h k))))
    have hw3 : w3.heap.size < W2.heap.size := bw.lt
    clear hb
    have c0 := bx.c0; have c1 := bx.c1
    go_wp2_with fail
    refine (toC_any _ _ _ _ _ h l1).mono ?_
    rintro e w4 ⟨X, x, rfl, rx, hx⟩
    clear c0 c1
    replace hb := hx
    have NX := hd (fun g hg => Rw.row rx g hg)
    replace bx := bx.ext hx; replace bw := bw.ext hx; replace h := h.ext hx; replace k := k.ext hx; clear hx
    go_upto_region 7 with fail
    obtain ⟨W3, hW3⟩ : ∃ W, W = w4.alloc (.cells #[.int .i64 t, .slice X xs.length x] 27) := ⟨_, rfl⟩
    rw [← hW3]
    have hx : Below w4.heap.size w4 W3 := by rw [hW3]; exact ext_alloc (Below.refl _ _) _
    have bq : Cx 27 W3 w4.heap.size (.int .i64 t) (.slice X xs.length x) := by rw [hW3]; exact Cx.new w4 _ _
    clear hW3
    replace bx := bx.ext hx; replace bw := bw.ext hx; replace h := h.ext hx; replace k := k.ext hx; replace rx := rx.ext hx
    replace hb := ext_trans hb hx; clear hx
    have hw4 : w4.heap.size < W3.heap.size := bq.lt
    have hW23 : W2.heap.size ≤ W3.heap.size := hb.size
    have c0 := bq.c0; have c1 := bq.c1
    have s := rx.sl
    go_wp2_with fail
    refine (GV.out X x _ s).mono ?_
    rintro e w5 ⟨G, g, rfl, rg, hx⟩
    have NG := hd (fun j hg => Rw.row rg j hg)
    clear c0 c1 s
    have hW35 := hx.size
    replace bx := bx.ext hx; replace bw := bw.ext hx; replace bq := bq.ext hx; replace h := h.ext hx; replace k := k.ext hx; replace rx := rx.ext hx; replace hb := ext_trans hb hx; clear hx
    go_upto_region 8 with fail
    obtain ⟨W4, hW4⟩ : ∃ W, W = w5.alloc (.cells #[.int .i64 t', .slice G us.length g] 27) := ⟨_, rfl⟩
    rw [← hW4]
    have hx : Below w5.heap.size w5 W4 := by rw [hW4]; exact ext_alloc (Below.refl _ _) _
    have bg : Cx 27 W4 w5.heap.size (.int .i64 t') (.slice G us.length g) := by rw [hW4]; exact Cx.new w5 _ _
    clear hW4
    replace bx := bx.ext hx; replace bw := bw.ext hx; replace bq := bq.ext hx; replace h := h.ext hx; replace k := k.ext hx; replace rx := rx.ext hx; replace rg := rg.ext hx
    replace hb := ext_trans hb hx; clear hx
    have c0 := bg.c0; have c1 := bg.c1; have y0 := bw.c0; have y1 := bw.c1
    have s := rg.sl
    go_wp2_with fail
    refine (eqC_same t' _ _ us _ _ _ s k).mono ?_
    rintro e w6 ⟨rfl, hx⟩
    clear c0 c1 y0 y1 s
    replace bx := bx.ext hx; replace bw := bw.ext hx; replace bq := bq.ext hx; replace bg := bg.ext hx; replace h := h.ext hx; replace k := k.ext hx; replace rx := rx.ext hx; replace rg := rg.ext hx; replace hb := ext_trans hb hx; clear hx
    go_upto_region 10 with fail
    go_cut [49] (fun s wx => s = .bool false ∧ Below w6.heap.size w6 wx)
    case first =>
      have hx : Below w6.heap.size w6 w6.drew := ext_drew (Below.refl _ _)
      have hq := hx
      have a := h.ext hx; have v0 := rx.sl.ext hx; have bX := bx.ext hx; have bQ := bq.ext hx
      have c0 := bX.c0; have c1 := bX.c1; have y0 := bQ.c0; have y1 := bQ.c1
      clear h k rx rg bx bw bq bg hb hx H2
      go_region_with (first | ((with_reducible refine (toC_any t A c xs _ a l1).mono ?_); rintro e w7 ⟨R, r, rfl, r1, hx⟩; have k := r1.sl; replace y0 := (bQ.ext hx).c0; replace y1 := (bQ.ext hx).c1; replace v0 := v0.ext hx; replace hq := ext_trans hq hx; clear hx r1) | ((with_reducible refine (eqC_same t _ _ xs _ _ _ v0 k).mono ?_); rintro e w8 ⟨rfl, hx⟩; replace hq := ext_trans hq hx; clear hx) | fail)
      all_goals (go_wp2_with fail; go_meet; exact ⟨rfl, hq⟩)
    case rest =>
      obtain ⟨rfl, hx⟩ := hcut
      replace bx := bx.ext hx; replace bw := bw.ext hx; replace bq := bq.ext hx; replace bg := bg.ext hx; replace h := h.ext hx; replace k := k.ext hx; replace rx := rx.ext hx; replace rg := rg.ext hx; replace hb := ext_trans hb hx; clear hx
      have c0 := bq.c0; have c1 := bq.c1
      go_wp2_with fail
      refine (mkC_any W2.heap.size t X x xs 1 k1 1 _ rfl E.out.1 b2 rx).mono ?_
      rintro e w9 ⟨rfl, -, wa, hBa, hC⟩
      clear c0 c1 bq rx h k bx bw
      have hX : ∀ g, rowOf X xs.length = some g → W2.heap.size ≤ g ∧ g < w4.heap.size := NX.out
      have hG1 : ∀ j, rowOf G us.length = some j → W3.heap.size ≤ j ∧ j < w5.heap.size := NG.out
      have hba := hBa.size
      have hbs := hb.size
      have hlg := bg.lt
      replace bg := (bg.ext hBa).far hC (fun e => by have := (hX _ e).2; omega)
      replace rg := Rw.apart (Rw.ext rg hBa) hC (fun j hj e => by have := (hX _ e).2; have := (hG1 _ hj).1; omega)
      replace hb := (ext_trans hb hBa).grown hC (by omega) (fun g e => (hX g e).1)
      clear hC hX hBa hba hbs
      have bw := H2.out.2.2.1.ext hb; have k := H2.out.2.2.2.2.ext hb
      have c0 := bg.c0; have c1 := bg.c1; have y0 := bw.c0; have y1 := bw.c1
      have s := rg.sl
      go_wp2_with fail
      refine (eqC_same t' _ _ us _ _ _ s k).mono ?_
      rintro e w10 ⟨rfl, hx⟩
      clear c0 c1 y0 y1 s bw k
      replace bg := bg.ext hx; replace rg := rg.ext hx; replace hb := ext_trans hb hx; clear hx
      have c0 := bg.c0; have c1 := bg.c1
      go_wp2_with fail
      refine (mkC_any W3.heap.size t' G g us 1 n1 1 _ rfl E.out.2 d2 rg).mono ?_
      rintro e w11 ⟨rfl, m1, wa, hBa, hC⟩
      clear c0 c1 rg
      have hba := hBa.size
      have hbs := hb.size
      replace bg := (bg.ext hBa).far hC (fun e => by have := (hG1 _ e).2; omega)
      replace hb := (ext_trans hb hBa).grown hC (by omega) (fun j e => by have := (hG1 j e).1; omega)
      replace m1 := m1.sl; unfold SlI at m1; rw [mkI_len] at m1
      clear hC hG1 hBa hba hbs
      have c0 := bg.c0; have c1 := bg.c1
      go_wp2_with fail
      refine (hdC_any t' G us.length g 1 n1 1 _ rfl E.out.2 d2 (slI_mkc m1)).mono ?_
      rintro e w12 ⟨rfl, hx⟩
      clear c0 c1
      replace bg := bg.ext hx; replace m1 := m1.ext hx; replace hb := ext_trans hb hx; clear hx
      have bx := H2.out.2.1.ext hb; have h := H2.out.2.2.2.1.ext hb
      have c0 := bx.c0; have c1 := bx.c1
      go_wp2_with fail
      refine (toC_any _ _ _ _ _ h l1).mono ?_
      rintro e w13 ⟨P1, p1, rfl, r1, hx⟩
      clear c0 c1
      have s := r1.sl; clear r1 bx h
      replace bg := bg.ext hx; replace m1 := m1.ext hx; replace hb := ext_trans hb hx; clear hx
      go_wp2_with fail
      refine (GV.out P1 p1 _ s).mono ?_
      rintro e w14 ⟨J, j, rfl, r1, hx⟩
      clear s; have s := r1.sl; clear r1
      replace bg := bg.ext hx; replace m1 := m1.ext hx; replace hb := ext_trans hb hx; clear hx
      go_upto_region 25 with fail
      obtain ⟨W5, hW5⟩ : ∃ W, W = w14.alloc (.cells #[.int .i64 t', .slice J us.length j] 27) := ⟨_, rfl⟩
      rw [← hW5]
      have hx : Below w14.heap.size w14 W5 := by rw [hW5]; exact ext_alloc (Below.refl _ _) _
      have bh : Cx 27 W5 w14.heap.size (.int .i64 t') (.slice J us.length j) := by rw [hW5]; exact Cx.new w14 _ _
      clear hW5
      replace bg := bg.ext hx; replace m1 := m1.ext hx; replace s := s.ext hx
      replace hb := ext_trans hb hx; clear hx
      have bw := H2.out.2.2.1.ext hb; have k := H2.out.2.2.2.2.ext hb
      have c0 := bh.c0; have c1 := bh.c1; have y0 := bw.c0; have y1 := bw.c1
      go_wp2_with fail
      refine (eqC_same t' _ _ us _ _ _ s k).mono ?_
      rintro e w15 ⟨rfl, hx⟩
      clear c0 c1 y0 y1 s bw k bh
      replace bg := bg.ext hx; replace m1 := m1.ext hx; replace hb := ext_trans hb hx; clear hx
      have c0 := bg.c0; have c1 := bg.c1
      go_wp2_with fail
      refine (hdC_any t' G us.length g 1 n1 1 _ rfl E.out.2 d2 (slI_mkc m1)).mono ?_
      rintro e w16 ⟨rfl, hx⟩
      have FIN := hd (ext_trans H2.out.1 (ext_trans hb hx))
      clear c0 c1 bg m1 hb hx
      go_wp2
      go_ret
      exact ⟨rfl, FIN.out⟩
  · have HL := hd (lft_out l1)
    go_enter Try.func4, Try.ntmps4
    go_wp2_with fail
    have hb0 : Below w.heap.size w (w.alloc (.cells #[.int .i64 t, .slice A xs.length c] 24)) := ext_alloc (Below.refl _ _) _
    refine (szC_any t A _ c _ (by omega)).mono ?_
    rintro e w' ⟨rfl, hx⟩
    rw [HL.out]
    go_wp2
    go_ret
    exact ⟨rfl, ext_trans hb0 hx⟩
end Go.Proofs.Ytjhhacmfhancpaa
