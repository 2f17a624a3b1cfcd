/- The walk of the exact law of GiveAll. -/
import Derived.Test.YtgoeeojlholegaaExSm
import Derived.Test.YtgoeeojlholegaaWGs
namespace Go.Proofs.Ytgoeeojlholegaa
open Go.RowKit
theorem markIS_kz (B : Nat) (A : Option Addr) (c : Nat) (xs : List Int) (k k1 : Nat) (kz : Int) (w : World) (hkz : kz = (k : Int)) (e1 : k1 = k + xs.length) (hk : k1 ≤ 4611686018427387904) (h : RwI w B A c xs) :
    Calls Try.prog 25 #[.slice A xs.length c, .int .i64 kz] w fun e w' => e = .returned (.int .i64 (k1 : Int)) ∧ RwI w' B A c (mkI xs.length k) ∧ w.grownBy w' (rowOf A xs.length) := by
  subst hkz e1
  exact markIS_any B A c xs k w h hk
theorem heldIS_kz (A : Option Addr) (n c : Nat) (k k1 : Nat) (kz : Int) (w : World) (hkz : kz = (k : Int)) (e1 : k1 = k + n) (hk : k1 ≤ 4611686018427387904) (h : SlI w A c (mkI n k)) :
    Calls Try.prog 26 #[.slice A n c, .int .i64 kz] w fun e w' => e = .returned (.int .i64 (k1 : Int)) ∧ Below w.heap.size w w' := by
  subst hkz e1
  exact (heldIS_any A n c k w h hk).mono fun e w' ⟨h1, h2⟩ => ⟨h1, by subst h2; exact Below.refl _ _⟩
theorem slI_mkz {w : World} {A : Option Addr} {c n k : Nat} (h : Sl w 1 A n c (ci (mkI n k))) : SlI w A c (mkI n k) := by
  unfold SlI; rw [mkI_len]; exact h
theorem GA_len (t : Int) (xs : List Int) : ∀ (n : Nat) (ys left : List Int), (GA t xs n ys left).length ≤ n
  | 0, _, _ => Nat.le_refl _
  | n + 1, ys, left => by
    unfold GA
    split
    · exact Nat.zero_le _
    · have := GA_len t xs n
      simp only [List.length_cons]
      exact Nat.succ_le_succ (this _ _)
theorem GALL_len (t : Int) (xs ys asks : List Int) : (GALL t xs ys asks).length ≤ asks.length := by
  unfold GALL
  split
  · exact GA_len _ _ _ _ _
  · exact Nat.zero_le _
set_option maxRecDepth 100000 in
set_option maxHeartbeats 4000000 in
theorem lawExactGiveAll (t : Int) (A : Option Addr) (c : Nat) (xs : List Int) (B : Option Addr) (d : Nat) (ys : List Int) (L : Option Addr) (l : Nat) (asks : List Int) (w : World) (_ : -9223372036854775808 ≤ t ∧ t ≤ 9223372036854775807) (h : SlI w A c xs) (h' : SlI w B d ys) (ha : SlI w L l asks) :
    Calls Try.prog 7 #[.agg #[.int .i64 t, .slice A xs.length c, .slice B ys.length d], .slice L asks.length l] w fun e w' => e = .returned (.bool true) ∧ Below w.heap.size w w' := by
  have hmax := h.max
  have hcap := h.cap
  have hmax' := h'.max
  have hcap' := h'.cap
  have hmaxa := ha.max
  have hcapa := ha.cap
  unfold maxLen at hmax hmax' hmaxa
  by_cases hi : asks.length ≤ 1048576
  · by_cases hn : xs.length ≤ 1048576 ∧ xs.length + ys.length ≤ 1048576
    · obtain ⟨m, hm0, hm1⟩ := lft2_in hn.1 hn.2
      have HL := hd hm0
      have l1 := hn.1
      have l2 : ys.length ≤ 1048576 := by omega
      have hs0 := GALL_len t xs ys asks
      have AG : Hid (∀ P p Q q U u w, SlI w P p xs → SlI w Q q ys → SlI w U u asks → Calls Try.prog 24 #[.agg #[.int .i64 t, .slice P xs.length p, .slice Q ys.length q], .slice U asks.length u] w (NewI (GALL t xs ys asks) w)) := hd (fun P p Q q U u w s s' sa => ga_any t P p xs Q q ys U u asks w s s' sa)
      have SG : Hid (∀ P p Q q U u w, SlI w P p xs → SlI w Q q ys → SlI w U u asks → Calls Try.prog 23 #[.agg #[.int .i64 t, .slice P xs.length p, .slice Q ys.length q], .slice U asks.length u] w (NewI (GALL t xs ys asks) w)) := hd (fun P p Q q U u w s s' sa => sga_any t P p xs Q q ys U u asks w s s' sa)
      obtain ⟨zs, hzs⟩ : ∃ zs, zs = GALL t xs ys asks := ⟨_, rfl⟩
      rw [← hzs] at hs0 AG SG
      clear hzs
      have HI := hd (sameI_self asks)
      have HZ := hd (sameI_self zs)
      obtain ⟨k1, e1⟩ : ∃ k1, k1 = 1 + xs.length := ⟨_, rfl⟩
      obtain ⟨k2, e2⟩ : ∃ k2, k2 = k1 + ys.length := ⟨_, rfl⟩
      obtain ⟨k3, e3⟩ : ∃ k3, k3 = k2 + asks.length := ⟨_, rfl⟩
      obtain ⟨n1, f1⟩ : ∃ n1, n1 = 1 + zs.length := ⟨_, rfl⟩
      have b2 : k2 ≤ 4611686018427387904 := by omega
      have b3 : k3 ≤ 4611686018427387904 := by omega
      have d1 : n1 ≤ 4611686018427387904 := by omega
      have gn : ((n1 : Int) != (n1 : Int)) = false := by simp
      have E := hd (And.intro e1 (And.intro e2 (And.intro e3 f1)))
      clear hn hm0 e1 e2 e3 f1
      go_enter Try.func7, Try.ntmps7
      go_wp2_with fail
      have bx := Bt.new (e := 24) w (.int .i64 t) (.slice A xs.length c) (.slice B ys.length d)
      have hb0 : Below w.heap.size w (w.alloc (.cells #[.int .i64 t, .slice A xs.length c, .slice B ys.length d] 24)) := ext_alloc (Below.refl _ _) _
      refine (szSh_any t A _ c B _ d _ (by omega) (by omega)).mono ?_
      rintro e w1 ⟨rfl, hx⟩
      rw [HL.out]
      have hb := ext_trans hb0 hx
      replace h := h.ext hb; replace h' := h'.ext hb; replace ha := ha.ext hb; replace bx := bx.ext hx
      clear hx hb0
      have c0 := bx.c0; have c1 := bx.c1; have c2 := bx.c2
      go_wp2_with fail
      refine (toSh_any _ _ _ _ _ _ _ _ h h' l1 l2).mono ?_
      rintro e w2 ⟨P1, p1, Q1, q1, rfl, r1, r2, -, hx⟩
      have s := r1.sl; have s' := r2.sl; clear r1 r2 c0 c1 c2
      replace bx := bx.ext hx; replace h := h.ext hx; replace h' := h'.ext hx; replace ha := ha.ext hx; replace hb := ext_trans hb hx; clear hx
      go_wp2_with fail
      refine (toIS_any _ _ _ _ ha hi).mono ?_
      rintro e w3 ⟨U1, z1, rfl, r1, hx⟩
      have sa := r1.sl; clear r1
      replace bx := bx.ext hx; replace h := h.ext hx; replace h' := h'.ext hx; replace ha := ha.ext hx; replace s := s.ext hx; replace s' := s'.ext hx; replace hb := ext_trans hb hx; clear hx
      go_wp2_with fail
      refine (SG.out _ _ _ _ _ _ _ s s' sa).mono ?_
      rintro e w4 ⟨K, kc, rfl, r, hx⟩
      have k := r.sl; clear r s s' sa
      replace bx := bx.ext hx; replace h := h.ext hx; replace h' := h'.ext hx; replace ha := ha.ext hx; replace hb := ext_trans hb hx; clear hx
      have hb1 := hb
      have H2 := hd (And.intro hb1 (And.intro bx (And.intro h (And.intro h' (And.intro ha k)))))
      obtain ⟨W2, hW2⟩ : ∃ W2, W2 = w4 := ⟨_, rfl⟩
      replace hb : Below W2.heap.size W2 w4 := by subst hW2; exact Below.refl _ _
      clear hb1
      have c0 := bx.c0; have c1 := bx.c1; have c2 := bx.c2
      go_wp2_with fail
      refine (toSh_any _ _ _ _ _ _ _ _ h h' l1 l2).mono ?_
      rintro e w5 ⟨X, x, Y, y, rfl, rx, rx', nx, hx⟩
      rw [← hW2] at H2 rx rx'
      clear hW2 c0 c1 c2
      have NX := hd (And.intro nx (And.intro (fun g hg => Rw.row rx g hg) (fun g hg => Rw.row rx' g hg)))
      clear nx
      replace bx := bx.ext hx; replace h := h.ext hx; replace h' := h'.ext hx; replace ha := ha.ext hx; replace k := k.ext hx; replace hb := ext_trans hb hx; clear hx
      go_upto_region 9 with fail
      obtain ⟨W3, hW3⟩ : ∃ W, W = w5.alloc (.cells #[.int .i64 t, .slice X xs.length x, .slice Y ys.length y] 27) := ⟨_, rfl⟩
      rw [← hW3]
      have hx : Below w5.heap.size w5 W3 := by rw [hW3]; exact ext_alloc (Below.refl _ _) _
      have bq : Bt 27 W3 w5.heap.size (.int .i64 t) (.slice X xs.length x) (.slice Y ys.length y) := by rw [hW3]; exact Bt.new w5 _ _ _
      clear hW3
      replace bx := bx.ext hx; replace h := h.ext hx; replace h' := h'.ext hx; replace ha := ha.ext hx; replace k := k.ext hx; replace rx := rx.ext hx; replace rx' := rx'.ext hx; replace hb := ext_trans hb hx; clear hx
      have hw5 : w5.heap.size < W3.heap.size := bq.lt
      have hW23 : W2.heap.size ≤ W3.heap.size := hb.size
      go_wp2_with fail
      refine (toIS_any _ _ _ _ ha hi).mono ?_
      rintro e w6 ⟨V, v, rfl, rv, hx⟩
      have NV := hd (fun g hg => Rw.row rv g hg)
      have hw6 := hx.size
      replace bx := bx.ext hx; replace bq := bq.ext hx; replace h := h.ext hx; replace h' := h'.ext hx; replace ha := ha.ext hx; replace k := k.ext hx; replace rx := rx.ext hx; replace rx' := rx'.ext hx; replace hb := ext_trans hb hx; clear hx
      have c0 := bq.c0; have c1 := bq.c1; have c2 := bq.c2
      have s := rx.sl; have s' := rx'.sl; have sa := rv.sl
      go_wp2_with fail
      refine (AG.out _ _ _ _ _ _ _ s s' sa).mono ?_
      rintro e w7 ⟨G, g, rfl, rg, hx⟩
      have NG := hd (fun g hg => Rw.row rg g hg)
      clear s s' sa c0 c1 c2
      replace bx := bx.ext hx; replace bq := bq.ext hx; replace h := h.ext hx; replace h' := h'.ext hx; replace ha := ha.ext hx; replace k := k.ext hx; replace rx := rx.ext hx; replace rx' := rx'.ext hx; replace rv := rv.ext hx; replace hb := ext_trans hb hx; clear hx
      have q := rg.sl
      go_wp2_with fail
      refine (eqIS_any _ _ _ _ _ _ _ q k).mono ?_
      rintro e w8 ⟨rfl, hx⟩
      rw [HZ.out]
      clear q
      replace bx := bx.ext hx; replace bq := bq.ext hx; replace h := h.ext hx; replace h' := h'.ext hx; replace ha := ha.ext hx; replace rx := rx.ext hx; replace rx' := rx'.ext hx; replace rv := rv.ext hx; replace rg := rg.ext hx; replace hb := ext_trans hb hx; clear hx
      clear k
      go_upto_region 13 with fail
      go_cut [42] (fun s wx => s = .bool false ∧ Below w8.heap.size w8 wx)
      case first =>
        have hx : Below w8.heap.size w8 w8.drew := ext_drew (Below.refl _ _)
        have hq := hx
        have a := h.ext hx; have a' := h'.ext hx; have v0 := rx.sl.ext hx; have v0' := rx'.sl.ext hx; have bX := bx.ext hx; have bQ := bq.ext hx
        have c0 := bX.c0; have c1 := bX.c1; have c2 := bX.c2; have y0 := bQ.c0; have y1 := bQ.c1; have y2 := bQ.c2
        clear h h' ha rx rx' rv rg bx bq hb hx H2
        go_region_with (first | ((with_reducible refine (toSh_any t A c xs B d ys _ a a' l1 l2).mono ?_); rintro e wp ⟨R, r, S, z, rfl, r1, r2, -, hx⟩; have k := r1.sl; have k' := r2.sl; replace y0 := (bQ.ext hx).c0; replace y1 := (bQ.ext hx).c1; replace y2 := (bQ.ext hx).c2; replace v0 := v0.ext hx; replace v0' := v0'.ext hx; replace hq := ext_trans hq hx; clear hx r1 r2) | ((with_reducible refine (eqSh_same t _ _ xs _ _ ys _ _ _ _ _ v0 v0' k k').mono ?_); rintro e wq ⟨rfl, hx⟩; replace hq := ext_trans hq hx; clear hx) | fail)
        all_goals (go_wp2_with fail; go_meet; exact ⟨rfl, hq⟩)
      case rest =>
        obtain ⟨rfl, hx⟩ := hcut
        replace bx := bx.ext hx; replace bq := bq.ext hx; replace h := h.ext hx; replace h' := h'.ext hx; replace ha := ha.ext hx; replace rx := rx.ext hx; replace rx' := rx'.ext hx; replace rv := rv.ext hx; replace rg := rg.ext hx; replace hb := ext_trans hb hx; clear hx
        go_wp2_with fail
        refine (toIS_any _ _ _ _ ha hi).mono ?_
        rintro e w9 ⟨U1, z1, rfl, r1, hx⟩
        have sa := r1.sl; clear r1
        replace bq := bq.ext hx; replace rx := rx.ext hx; replace rx' := rx'.ext hx; replace rv := rv.ext hx; replace rg := rg.ext hx; replace hb := ext_trans hb hx; clear hx
        clear bx h h' ha
        have s := rv.sl
        go_wp2_with fail
        refine (eqIS_any _ _ _ _ _ _ _ s sa).mono ?_
        rintro e w10 ⟨rfl, hx⟩
        rw [HI.out]
        clear s sa
        replace bq := bq.ext hx; replace rx := rx.ext hx; replace rx' := rx'.ext hx; replace rv := rv.ext hx; replace rg := rg.ext hx; replace hb := ext_trans hb hx; clear hx
        have c0 := bq.c0; have c1 := bq.c1; have c2 := bq.c2
        go_wp2_with fail
        refine (mkSh_any W2.heap.size t X x xs Y y ys 1 k1 k2 1 _ rfl E.out.1 E.out.2.1 b2 rx rx' NX.out.1).mono ?_
        rintro e w11 ⟨rfl, -, -, hC⟩
        clear c0 c1 c2 bq rx rx'
        have hX : ∀ g, rowOf X xs.length = some g → W2.heap.size ≤ g ∧ g < w5.heap.size := NX.out.2.1
        have hY : ∀ g, rowOf Y ys.length = some g → W2.heap.size ≤ g ∧ g < w5.heap.size := NX.out.2.2
        have hV : ∀ g, rowOf V asks.length = some g → W3.heap.size ≤ g ∧ g < w6.heap.size := NV.out
        have hG : ∀ j, rowOf G zs.length = some j → w6.heap.size ≤ j ∧ j < w7.heap.size := NG.out
        replace rv := hC.rw rv (fun j hj => ⟨fun e => by have := (hX _ e).2; have := (hV _ hj).1; omega, fun e => by have := (hY _ e).2; have := (hV _ hj).1; omega⟩)
        replace rg := hC.rw rg (fun j hj => ⟨fun e => by have := (hX _ e).2; have := (hG _ hj).1; omega, fun e => by have := (hY _ e).2; have := (hG _ hj).1; omega⟩)
        replace hb := hb.trans (hC.below hb.size (fun g e => (hX g e).1) (fun g e => (hY g e).1))
        clear hC hX hY
        go_wp2_with fail
        refine (markIS_kz W3.heap.size V v asks k2 k3 _ _ rfl E.out.2.2.1 b3 rv).mono ?_
        rintro e w12 ⟨rfl, -, hC⟩
        replace rg := Rw.apart rg hC (fun j hj e => by have := (hV _ e).2; have := (hG _ hj).1; omega)
        replace hb := hb.grown hC hb.size (fun g e => by have := (hV g e).1; omega)
        clear hC rv hV
        have k := H2.out.2.2.2.2.2.ext hb
        have q : SlI w12 G g zs := rg.1
        go_wp2_with fail
        refine (eqIS_any _ _ _ _ _ _ _ q k).mono ?_
        rintro e w13 ⟨rfl, hx⟩
        rw [HZ.out]
        clear q k
        replace rg := Rw.ext rg hx; replace hb := ext_trans hb hx; clear hx
        go_wp2_with fail
        refine (markIS_kz w6.heap.size G g zs 1 n1 1 _ rfl E.out.2.2.2 d1 rg).mono ?_
        rintro e w14 ⟨rfl, mg, hC⟩
        replace hb := hb.grown hC hb.size (fun j e => by have := (hG j e).1; omega)
        replace mg : Sl w14 1 G (mkI zs.length 1).length g (ci (mkI zs.length 1)) := mg.1
        rw [mkI_len] at mg
        clear hC rg hG
        go_wp2_with fail
        refine (heldIS_kz G zs.length g 1 n1 1 _ rfl E.out.2.2.2 d1 (slI_mkz mg)).mono ?_
        rintro e w15 ⟨rfl, hx⟩
        replace mg := mg.ext hx; replace hb := ext_trans hb hx; clear hx
        have bx := H2.out.2.1.ext hb; have h := H2.out.2.2.1.ext hb; have h' := H2.out.2.2.2.1.ext hb; have ha := H2.out.2.2.2.2.1.ext hb
        have c0 := bx.c0; have c1 := bx.c1; have c2 := bx.c2
        go_wp2_with fail
        refine (toSh_any _ _ _ _ _ _ _ _ h h' l1 l2).mono ?_
        rintro e w16 ⟨P1, p1, Q1, q1, rfl, r1, r2, -, hx⟩
        have s := r1.sl; have s' := r2.sl; clear r1 r2 c0 c1 c2
        replace ha := ha.ext hx; replace mg := mg.ext hx; replace hb := ext_trans hb hx; clear hx
        clear bx h h'
        go_wp2_with fail
        refine (toIS_any _ _ _ _ ha hi).mono ?_
        rintro e w17 ⟨U1, z1, rfl, r1, hx⟩
        have sa := r1.sl; clear r1
        replace s := s.ext hx; replace s' := s'.ext hx; replace mg := mg.ext hx; replace hb := ext_trans hb hx; clear hx
        clear ha
        go_wp2_with fail
        refine (AG.out _ _ _ _ _ _ _ s s' sa).mono ?_
        rintro e w18 ⟨J, j, rfl, rj, hx⟩
        have q := rj.sl; clear rj s s' sa
        replace mg := mg.ext hx; replace hb := ext_trans hb hx; clear hx
        have k := H2.out.2.2.2.2.2.ext hb
        go_wp2_with fail
        refine (eqIS_any _ _ _ _ _ _ _ q k).mono ?_
        rintro e w19 ⟨rfl, hx⟩
        rw [HZ.out]
        replace mg := mg.ext hx; replace hb := ext_trans hb hx; clear hx q k
        go_wp2_with fail
        refine (heldIS_kz G zs.length g 1 n1 1 _ rfl E.out.2.2.2 d1 (slI_mkz mg)).mono ?_
        rintro e w20 ⟨rfl, hx⟩
        have FIN := hd (ext_trans H2.out.1 (ext_trans hb hx))
        clear hx mg hb
        go_wp2
        go_ret
        exact ⟨rfl, FIN.out⟩
    · have HL := hd (lft2_out hn)
      go_enter Try.func7, Try.ntmps7
      go_wp2_with fail
      have hb0 : Below w.heap.size w (w.alloc (.cells #[.int .i64 t, .slice A xs.length c, .slice B ys.length d] 24)) := ext_alloc (Below.refl _ _) _
      refine (szSh_any t A _ c B _ d _ (by omega) (by omega)).mono ?_
      rintro e w' ⟨rfl, hx⟩
      rw [HL.out]
      go_wp2
      go_ret
      exact ⟨rfl, ext_trans hb0 hx⟩
  · go_enter Try.func7, Try.ntmps7
    go_wp2
    go_ret
    exact ⟨rfl, ext_alloc (Below.refl _ _) _⟩
end Go.Proofs.Ytgoeeojlholegaa
