/- The walk of the exact law of TakeShare. -/
import Derived.Test.YtgoeeojlholegaaExSm
namespace Go.Proofs.Ytgoeeojlholegaa
open Go.RowKit
theorem slI_mk {w : World} {A : Option Addr} {c n k : Nat} (h : Sl w 1 A n c (ci (mkI n k))) : SlI w A c (mkI n k) := by
  unfold SlI; rw [mkI_len]; exact h
set_option maxRecDepth 100000 in
set_option maxHeartbeats 2000000 in
theorem lawExactTakeShare (t : Int) (A : Option Addr) (c : Nat) (xs : List Int) (B : Option Addr) (d : Nat) (ys : List Int) (oi : Int) (w : World) (_ : -9223372036854775808 ≤ t ∧ t ≤ 9223372036854775807) (h : SlI w A c xs) (h' : SlI w B d ys) (_ : -9223372036854775808 ≤ oi ∧ oi ≤ 9223372036854775807) :
    Calls Try.prog 6 #[.agg #[.int .i64 t, .slice A xs.length c, .slice B ys.length d], .int .i64 oi] w fun e w' => e = .returned (.bool true) ∧ Below w.heap.size w w' := by
  have hmax := h.max
  have hcap := h.cap
  have hmax' := h'.max
  have hcap' := h'.cap
  unfold maxLen at hmax hmax'
  by_cases hn : xs.length ≤ 1048576 ∧ xs.length + ys.length ≤ 1048576
  · obtain ⟨m, hm0, hm1⟩ := lft2_in hn.1 hn.2
    have HL := hd hm0
    have l1 := hn.1
    have l2 : ys.length ≤ 1048576 := by omega
    obtain ⟨t', us, zs, b, hu, hz, hG⟩ := shG_of t xs ys oi (-1)
    have gb : (b != b) = false := by simp
    have GV := hd (fun P p Q q w s s' => (tk_any t P p xs Q q ys oi w s s').mono (hG w))
    have SG := hd (fun P p Q q w s s' => (stk_any t P p xs Q q ys oi w s s').mono (hG w))
    obtain ⟨k1, e1⟩ : ∃ k1, k1 = 1 + xs.length := ⟨_, rfl⟩
    obtain ⟨k2, e2⟩ : ∃ k2, k2 = k1 + ys.length := ⟨_, rfl⟩
    obtain ⟨n1, f1⟩ : ∃ n1, n1 = 1 + us.length := ⟨_, rfl⟩
    obtain ⟨n2, f2⟩ : ∃ n2, n2 = n1 + zs.length := ⟨_, rfl⟩
    have b2 : k2 ≤ 4611686018427387904 := by omega
    have d2 : n2 ≤ 4611686018427387904 := by omega
    have gn : ((n2 : Int) != (n2 : Int)) = false := by simp
    have E := hd (And.intro e1 (And.intro e2 (And.intro f1 f2)))
    clear hn hm0 hG e1 e2 f1 f2
    go_enter Try.func6, Try.ntmps6
    go_wp2_with fail
    have bx := Bt.new (e := 24) w (.int .i64 t) (.slice A xs.length c) (.slice B ys.length d)
    have hb0 : Below w.heap.size w (w.alloc (.cells #[.int .i64 t, .slice A xs.length c, .slice B ys.length d] 24)) := ext_alloc (Below.refl _ _) _
    refine (szSh_any t A _ c B _ d _ (by omega) (by omega)).mono ?_
    rintro e w1 ⟨rfl, hx⟩
    rw [HL.out]
    have hb := ext_trans hb0 hx
    replace h := h.ext hb
    replace h' := h'.ext hb
    replace bx := bx.ext hx
    have c0 := bx.c0; have c1 := bx.c1; have c2 := bx.c2
    clear hx hb0
    go_wp2_with fail
    refine (toSh_any _ _ _ _ _ _ _ _ h h' l1 l2).mono ?_
    rintro e w2 ⟨P1, p1, Q1, q1, rfl, r1, r2, -, hx⟩
    have s := r1.sl; have s' := r2.sl; clear r1 r2 c0 c1 c2
    replace bx := bx.ext hx; replace h := h.ext hx; replace h' := h'.ext hx; replace hb := ext_trans hb hx; clear hx
    go_wp2_with fail
    refine (SG.out P1 p1 Q1 q1 _ s s').mono ?_
    rintro e w3 ⟨P, p, Q, q, rfl, r1, r2, -, hx⟩
    have k := r1.sl; have k' := r2.sl; clear r1 r2 s s'
    replace bx := bx.ext hx; replace h := h.ext hx; replace h' := h'.ext hx; replace hb := ext_trans hb hx; clear hx
    go_upto_region 6 with fail
    obtain ⟨W2, hW2⟩ : ∃ W, W = w3.alloc (.cells #[.int .i64 t', .slice P us.length p, .slice Q zs.length q] 27) := ⟨_, rfl⟩
    rw [← hW2]
    have hx : Below w3.heap.size w3 W2 := by rw [hW2]; exact ext_alloc (Below.refl _ _) _
    have bw : Bt 27 W2 w3.heap.size (.int .i64 t') (.slice P us.length p) (.slice Q zs.length q) := by rw [hW2]; exact Bt.new w3 _ _ _
    clear hW2
    replace bx := bx.ext hx; replace h := h.ext hx; replace h' := h'.ext hx; replace k := k.ext hx; replace k' := k'.ext hx
    replace hb := ext_trans hb hx; clear hx
    have H2 := hd (And.intro hb (And.intro bx (And.intro bw (And.intro h (And.intro h' (And.intro k k'))))))
    have hw3 : w3.heap.size < W2.heap.size := bw.lt
    have c0 := bx.c0; have c1 := bx.c1; have c2 := bx.c2
    clear hb bx
    go_wp2_with fail
    refine (toSh_any _ _ _ _ _ _ _ _ h h' l1 l2).mono ?_
    rintro e w4 ⟨X, x, Y, y, rfl, rx, rx', nx, hx⟩
    clear c0 c1 c2
    replace hb := hx
    have NX := hd (And.intro nx (And.intro (fun g hg => Rw.row rx g hg) (fun g hg => Rw.row rx' g hg)))
    clear nx
    have bx := H2.out.2.1.ext hx
    replace bw := bw.ext hx; replace h := h.ext hx; replace h' := h'.ext hx; replace k := k.ext hx; replace k' := k'.ext hx; clear hx
    go_upto_region 7 with fail
    obtain ⟨W3, hW3⟩ : ∃ W, W = w4.alloc (.cells #[.int .i64 t, .slice X xs.length x, .slice Y ys.length y] 27) := ⟨_, rfl⟩
    rw [← hW3]
    have hx : Below w4.heap.size w4 W3 := by rw [hW3]; exact ext_alloc (Below.refl _ _) _
    have bq : Bt 27 W3 w4.heap.size (.int .i64 t) (.slice X xs.length x) (.slice Y ys.length y) := by rw [hW3]; exact Bt.new w4 _ _ _
    clear hW3
    replace bx := bx.ext hx; replace bw := bw.ext hx; replace h := h.ext hx; replace h' := h'.ext hx; replace k := k.ext hx; replace k' := k'.ext hx; replace rx := rx.ext hx; replace rx' := rx'.ext hx
    replace hb := ext_trans hb hx; clear hx
    have hw4 : w4.heap.size < W3.heap.size := bq.lt
    have hW23 : W2.heap.size ≤ W3.heap.size := hb.size
    have c0 := bq.c0; have c1 := bq.c1; have c2 := bq.c2
    have s := rx.sl; have s' := rx'.sl
    go_wp2_with fail
    refine (GV.out X x Y y _ s s').mono ?_
    rintro e w5 ⟨G, g, I, i, rfl, rg, rg', ng, hx⟩
    have NG := hd (And.intro ng (And.intro (fun g hg => Rw.row rg g hg) (fun g hg => Rw.row rg' g hg)))
    clear ng c0 c1 c2 s s'
    replace bx := bx.ext hx; replace bw := bw.ext hx; replace bq := bq.ext hx; replace h := h.ext hx; replace h' := h'.ext hx; replace k := k.ext hx; replace k' := k'.ext hx; replace rx := rx.ext hx; replace rx' := rx'.ext hx; replace hb := ext_trans hb hx; have hW3 := hx.size; clear hx
    go_upto_region 8 with fail
    obtain ⟨W4, hW4⟩ : ∃ W, W = w5.alloc (.cells #[.int .i64 t', .slice G us.length g, .slice I zs.length i] 27) := ⟨_, rfl⟩
    rw [← hW4]
    have hx : Below w5.heap.size w5 W4 := by rw [hW4]; exact ext_alloc (Below.refl _ _) _
    have bg : Bt 27 W4 w5.heap.size (.int .i64 t') (.slice G us.length g) (.slice I zs.length i) := by rw [hW4]; exact Bt.new w5 _ _ _
    clear hW4
    replace bx := bx.ext hx; replace bw := bw.ext hx; replace bq := bq.ext hx; replace h := h.ext hx; replace h' := h'.ext hx; replace k := k.ext hx; replace k' := k'.ext hx; replace rx := rx.ext hx; replace rx' := rx'.ext hx; replace rg := rg.ext hx; replace rg' := rg'.ext hx
    replace hb := ext_trans hb hx; clear hx
    have c0 := bg.c0; have c1 := bg.c1; have c2 := bg.c2; have y0 := bw.c0; have y1 := bw.c1; have y2 := bw.c2
    have s := rg.sl; have s' := rg'.sl
    go_wp2_with fail
    refine (eqSh_same t' _ _ us _ _ zs _ _ _ _ _ s s' k k').mono ?_
    rintro e w6 ⟨rfl, hx⟩
    clear c0 c1 c2 y0 y1 y2 s s'
    replace bx := bx.ext hx; replace bw := bw.ext hx; replace bq := bq.ext hx; replace bg := bg.ext hx; replace h := h.ext hx; replace h' := h'.ext hx; replace k := k.ext hx; replace k' := k'.ext hx; replace rx := rx.ext hx; replace rx' := rx'.ext hx; replace rg := rg.ext hx; replace rg' := rg'.ext hx; replace hb := ext_trans hb hx; clear hx
    go_upto_region 10 with fail
    go_cut [49] (fun s wx => s = .bool false ∧ Below w6.heap.size w6 wx)
    case first =>
      have hx : Below w6.heap.size w6 w6.drew := ext_drew (Below.refl _ _)
      have hq := hx
      have a := h.ext hx; have a' := h'.ext hx; have v := rx.sl.ext hx; have v' := rx'.sl.ext hx; have bX := bx.ext hx; have bQ := bq.ext hx
      have c0 := bX.c0; have c1 := bX.c1; have c2 := bX.c2; have y0 := bQ.c0; have y1 := bQ.c1; have y2 := bQ.c2
      clear h h' k k' rx rx' rg rg' bx bw bq bg hb hx H2
      go_region_with (first | ((with_reducible refine (toSh_any t A c xs B d ys _ a a' l1 l2).mono ?_); rintro e w7 ⟨R, r, S, z, rfl, r1, r2, -, hx⟩; have k := r1.sl; have k' := r2.sl; replace y0 := (bQ.ext hx).c0; replace y1 := (bQ.ext hx).c1; replace y2 := (bQ.ext hx).c2; replace v := v.ext hx; replace v' := v'.ext hx; replace hq := ext_trans hq hx; clear hx r1 r2) | ((with_reducible refine (eqSh_same t _ _ xs _ _ ys _ _ _ _ _ v v' k k').mono ?_); rintro e w8 ⟨rfl, hx⟩; replace hq := ext_trans hq hx; clear hx) | fail)
      all_goals (go_wp2_with fail; go_meet; exact ⟨rfl, hq⟩)
    case rest =>
      obtain ⟨rfl, hx⟩ := hcut
      replace bx := bx.ext hx; replace bw := bw.ext hx; replace bq := bq.ext hx; replace bg := bg.ext hx; replace h := h.ext hx; replace h' := h'.ext hx; replace k := k.ext hx; replace k' := k'.ext hx; replace rx := rx.ext hx; replace rx' := rx'.ext hx; replace rg := rg.ext hx; replace rg' := rg'.ext hx; replace hb := ext_trans hb hx; clear hx
      have c0 := bq.c0; have c1 := bq.c1; have c2 := bq.c2
      go_wp2_with fail
      refine (mkSh_any W2.heap.size t X x xs Y y ys 1 k1 k2 1 _ rfl E.out.1 E.out.2.1 b2 rx rx' NX.out.1).mono ?_
      rintro e w9 ⟨rfl, -, -, hC⟩
      clear c0 c1 c2 bq rx rx' h h' k k' bx bw
      have hX : ∀ g, rowOf X xs.length = some g → W2.heap.size ≤ g ∧ g < w4.heap.size := NX.out.2.1
      have hY : ∀ g, rowOf Y ys.length = some g → W2.heap.size ≤ g ∧ g < w4.heap.size := NX.out.2.2
      have hG1 : ∀ g, rowOf G us.length = some g → W3.heap.size ≤ g ∧ g < w5.heap.size := NG.out.2.1
      have hG2 : ∀ g, rowOf I zs.length = some g → W3.heap.size ≤ g ∧ g < w5.heap.size := NG.out.2.2
      replace bg := hC.bt bg (fun e => by have := (hX _ e).2; omega) (fun e => by have := (hY _ e).2; omega)
      replace rg := hC.rw rg (fun j hj => ⟨fun e => by have := (hX _ e).2; have := (hG1 _ hj).1; omega, fun e => by have := (hY _ e).2; have := (hG1 _ hj).1; omega⟩)
      replace rg' := hC.rw rg' (fun j hj => ⟨fun e => by have := (hX _ e).2; have := (hG2 _ hj).1; omega, fun e => by have := (hY _ e).2; have := (hG2 _ hj).1; omega⟩)
      replace hb := hb.trans (hC.below hb.size (fun g e => (hX g e).1) (fun g e => (hY g e).1))
      clear hC hX hY
      have bw := H2.out.2.2.1.ext hb; have k := H2.out.2.2.2.2.2.1.ext hb; have k' := H2.out.2.2.2.2.2.2.ext hb
      have c0 := bg.c0; have c1 := bg.c1; have c2 := bg.c2; have y0 := bw.c0; have y1 := bw.c1; have y2 := bw.c2
      have s := rg.sl; have s' := rg'.sl
      go_wp2_with fail
      refine (eqSh_same t' _ _ us _ _ zs _ _ _ _ _ s s' k k').mono ?_
      rintro e w10 ⟨rfl, hx⟩
      clear c0 c1 c2 y0 y1 y2 s s' bw k k'
      replace bg := bg.ext hx; replace rg := rg.ext hx; replace rg' := rg'.ext hx; replace hb := ext_trans hb hx; clear hx
      have c0 := bg.c0; have c1 := bg.c1; have c2 := bg.c2
      go_wp2_with fail
      refine (mkSh_any W3.heap.size t' G g us I i zs 1 n1 n2 1 _ rfl E.out.2.2.1 E.out.2.2.2 d2 rg rg' NG.out.1).mono ?_
      rintro e w11 ⟨rfl, m1, m2, hC⟩
      clear c0 c1 c2 rg rg'
      replace bg := hC.bt bg (fun e => by have := (hG1 _ e).2; omega) (fun e => by have := (hG2 _ e).2; omega)
      replace hb := hb.trans (hC.below hb.size (fun g e => by have := (hG1 g e).1; omega) (fun g e => by have := (hG2 g e).1; omega))
      replace m1 := m1.sl; replace m2 := m2.sl; unfold SlI at m1 m2; rw [mkI_len] at m1 m2
      clear hC hG1 hG2
      have c0 := bg.c0; have c1 := bg.c1; have c2 := bg.c2
      go_wp2_with fail
      refine (hdSh_any t' G us.length g I zs.length i 1 n1 n2 1 _ rfl E.out.2.2.1 E.out.2.2.2 d2 (slI_mk m1) (slI_mk m2)).mono ?_
      rintro e w12 ⟨rfl, hx⟩
      clear c0 c1 c2
      replace bg := bg.ext hx; replace m1 := m1.ext hx; replace m2 := m2.ext hx; replace hb := ext_trans hb hx; clear hx
      have bx := H2.out.2.1.ext hb; have h := H2.out.2.2.2.1.ext hb; have h' := H2.out.2.2.2.2.1.ext hb
      have c0 := bx.c0; have c1 := bx.c1; have c2 := bx.c2
      go_wp2_with fail
      refine (toSh_any _ _ _ _ _ _ _ _ h h' l1 l2).mono ?_
      rintro e w13 ⟨P1, p1, Q1, q1, rfl, r1, r2, -, hx⟩
      have s := r1.sl; have s' := r2.sl; clear r1 r2 c0 c1 c2 bx h h'
      replace bg := bg.ext hx; replace m1 := m1.ext hx; replace m2 := m2.ext hx; replace hb := ext_trans hb hx; clear hx
      go_wp2_with fail
      refine (GV.out P1 p1 Q1 q1 _ s s').mono ?_
      rintro e w14 ⟨J, j, K, l, rfl, r1, r2, -, hx⟩
      have s := r1.sl; have s' := r2.sl; clear r1 r2
      replace bg := bg.ext hx; replace m1 := m1.ext hx; replace m2 := m2.ext hx; replace hb := ext_trans hb hx; clear hx
      go_upto_region 25 with fail
      obtain ⟨W5, hW5⟩ : ∃ W, W = w14.alloc (.cells #[.int .i64 t', .slice J us.length j, .slice K zs.length l] 27) := ⟨_, rfl⟩
      rw [← hW5]
      have hx : Below w14.heap.size w14 W5 := by rw [hW5]; exact ext_alloc (Below.refl _ _) _
      have bh : Bt 27 W5 w14.heap.size (.int .i64 t') (.slice J us.length j) (.slice K zs.length l) := by rw [hW5]; exact Bt.new w14 _ _ _
      clear hW5
      replace bg := bg.ext hx; replace m1 := m1.ext hx; replace m2 := m2.ext hx; replace s := s.ext hx; replace s' := s'.ext hx
      replace hb := ext_trans hb hx; clear hx
      have bw := H2.out.2.2.1.ext hb; have k := H2.out.2.2.2.2.2.1.ext hb; have k' := H2.out.2.2.2.2.2.2.ext hb
      have c0 := bh.c0; have c1 := bh.c1; have c2 := bh.c2; have y0 := bw.c0; have y1 := bw.c1; have y2 := bw.c2
      go_wp2_with fail
      refine (eqSh_same t' _ _ us _ _ zs _ _ _ _ _ s s' k k').mono ?_
      rintro e w15 ⟨rfl, hx⟩
      clear c0 c1 c2 y0 y1 y2 s s' bw k k' bh
      replace bg := bg.ext hx; replace m1 := m1.ext hx; replace m2 := m2.ext hx; replace hb := ext_trans hb hx; clear hx
      have c0 := bg.c0; have c1 := bg.c1; have c2 := bg.c2
      go_wp2_with fail
      refine (hdSh_any t' G us.length g I zs.length i 1 n1 n2 1 _ rfl E.out.2.2.1 E.out.2.2.2 d2 (slI_mk m1) (slI_mk m2)).mono ?_
      rintro e w16 ⟨rfl, hx⟩
      clear c0 c1 c2
      replace bg := bg.ext hx; replace m1 := m1.ext hx; replace m2 := m2.ext hx; replace hb := ext_trans hb hx; clear hx
      have FIN := hd (ext_trans H2.out.1 hb)
      clear bg m1 m2 hb
      go_wp2
      go_ret
      exact ⟨rfl, FIN.out⟩
  · have HL := hd (lft2_out hn)
    go_enter Try.func6, Try.ntmps6
    go_wp2_with fail
    have hb0 : Below w.heap.size w (w.alloc (.cells #[.int .i64 t, .slice A xs.length c, .slice B ys.length d] 24)) := ext_alloc (Below.refl _ _) _
    refine (szSh_any t A _ c B _ d _ (by omega) (by omega)).mono ?_
    rintro e w' ⟨rfl, hx⟩
    rw [HL.out]
    go_wp2
    go_ret
    exact ⟨rfl, ext_trans hb0 hx⟩
end Go.Proofs.Ytgoeeojlholegaa
