/- The walk of laws.FnCountPrepares. -/
import Derived.Deep.DeepCutAuto
import Derived.Test.YtmenknnncjbbpaaWCm
import Derived.Test.YtmenknnncjbbpaaWC7
import Derived.Test.YtmenknnncjbbpaaDrCn
namespace Go.Proofs.Ytmenknnncjbbpaa
open Go.RowKit
set_option maxRecDepth 100000 in
set_option maxHeartbeats 4000000 in
theorem lawCountPrepares (A : Option Addr) (n c : Nat) (w : World) (h : SlB w A n c) :
    Calls Try.prog 6 #[.slice A n c] w fun e w' => e = .returned (.bool true) ∧ Below w.heap.size w w' := by
  have hmax := h.2.1
  have hcap := h.1
  unfold maxLen at hmax
  by_cases hn : 1048576 < n
  · go_enter Try.func6, Try.ntmps6
    go_wp2
    go_ret
    exact ⟨rfl, Below.refl _ _⟩
  · go_enter Try.func6, Try.ntmps6
    go_wp2_with fail
    refine (drawCountPrepares_any A n c w h).mono ?_
    rintro e w1 ⟨r, P, p, xs, E, f, ns, rfl, rr0, rr1, sP, l1, sE, l2, hb⟩
    clear h
    go_upto_region 4 with fail
    obtain ⟨X1, hX⟩ : ∃ W, W = w1.alloc (.cells #[.int .i64 r, .slice P xs.length p] 31) := ⟨_, rfl⟩
    rw [← hX]
    have S : Hc X1 w1.heap.size r P p xs := by rw [hX]; exact hc_new w1 sP
    have hx : Below w1.heap.size w1 X1 := by rw [hX]; exact ext_alloc (Below.refl _ _) _
    clear hX
    replace sE := sE.ext hx; replace hb := ext_trans hb hx; clear hx
    clear sP
    obtain ⟨m, hm⟩ : ∃ m, CP r xs ns = m := ⟨_, rfl⟩
    have N1 : Hid (∀ W A C a c, SlI W A a xs → SlI W C c ns → Calls Try.prog 13 #[.agg #[.int .i64 r, .slice A xs.length a], .slice C ns.length c] W (fun e w' => e = .returned (.int .i64 m) ∧ Below W.heap.size W w')) := hd (fun W A C a c s sa => by have := cp_any r A a xs C c ns W s sa; rwa [hm] at this)
    have N2 : Hid (∀ W A C a c, SlI W A a xs → SlI W C c ns → Calls Try.prog 14 #[.agg #[.int .i64 r, .slice A xs.length a], .slice C ns.length c] W (fun e w' => e = .returned (.int .i64 m) ∧ Below W.heap.size W w')) := hd (fun W A C a c s sa => by have := scp_any r A a xs C c ns W s sa; rwa [hm] at this)
    have g1 : (m != m) = false := by simp
    have g2 : (m == m) = true := by simp
    by_cases hneg : m < 0
    · have g0 : decide (m < 0) = true := decide_eq_true hneg
      clear hneg hm
      have S_0 := S.bx.c0; have S_1 := S.bx.c1
      go_wp2_with fail
      refine (N1.out _ _ _ _ _ S.sx sE).mono ?_
      rintro e w2 ⟨rfl, hx⟩
      clear S_0 S_1
      replace sE := sE.ext hx; replace S := S.ext hx; replace hb := ext_trans hb hx; clear hx
      have S_0 := S.bx.c0; have S_1 := S.bx.c1
      go_wp2_with fail
      refine (N2.out _ _ _ _ _ S.sx sE).mono ?_
      rintro e w3 ⟨rfl, hx⟩
      clear S_0 S_1
      replace sE := sE.ext hx; replace S := S.ext hx; replace hb := ext_trans hb hx; clear hx
      have S_0 := S.bx.c0; have S_1 := S.bx.c1
      go_wp2_with fail
      refine (N2.out _ _ _ _ _ S.sx sE).mono ?_
      rintro e w4 ⟨rfl, hx⟩
      clear S_0 S_1
      replace sE := sE.ext hx; replace S := S.ext hx; replace hb := ext_trans hb hx; clear hx
      have FIN := hd hb
      clear hb
      go_wp2
      go_ret
      exact ⟨rfl, FIN.out⟩
    · have g0 : decide (m < 0) = false := decide_eq_false hneg
      have hge : 0 ≤ CP r xs ns := by omega
      clear hneg
      obtain ⟨hv, -, -, -⟩ := CP_valid hge
      have V0 := (validC_iff.1 hv).r0
      have V6 := (validC_iff.1 hv).r1
      by_cases hl : ns.length = 0
      · have gl : ((ns.length : Int) == 0) = true := beq_iff_eq.2 (by omega)
        have gl2 : (ns.length == 0) = true := beq_iff_eq.2 hl
        clear hl hv hge hm
        have S_0 := S.bx.c0; have S_1 := S.bx.c1
        go_wp2_with fail
        refine (N1.out _ _ _ _ _ S.sx sE).mono ?_
        rintro e w2 ⟨rfl, hx⟩
        clear S_0 S_1
        replace sE := sE.ext hx; replace S := S.ext hx; replace hb := ext_trans hb hx; clear hx
        have S_0 := S.bx.c0; have S_1 := S.bx.c1
        go_wp2_with fail
        refine (N2.out _ _ _ _ _ S.sx sE).mono ?_
        rintro e w3 ⟨rfl, hx⟩
        clear S_0 S_1
        replace sE := sE.ext hx; replace S := S.ext hx; replace hb := ext_trans hb hx; clear hx
        have S_0 := S.bx.c0; have S_1 := S.bx.c1
        go_wp2_with fail
        refine (N2.out _ _ _ _ _ S.sx sE).mono ?_
        rintro e w4 ⟨rfl, hx⟩
        clear S_0 S_1
        replace sE := sE.ext hx; replace S := S.ext hx; replace hb := ext_trans hb hx; clear hx
        have FIN := hd hb
        clear hb
        go_wp2
        go_ret
        exact ⟨rfl, FIN.out⟩
      · have gl : ((ns.length : Int) == 0) = false := beq_eq_false_iff_ne.2 (by omega)
        have gl2 : (ns.length == 0) = false := beq_eq_false_iff_ne.2 hl
        have h0 : 0 < ns.length := by omega
        obtain ⟨n0, nt, hns⟩ : ∃ n0 nt, ns = n0 :: nt := by cases ns with | nil => exact absurd rfl hl | cons x y => exact ⟨x, y, rfl⟩
        have hat : at0 ns 0 = n0 := by rw [hns]; rfl
        have hdr : ns.drop 1 = nt := by rw [hns]; rfl
        have hnl : nt.length + 1 = ns.length := by rw [hns]; rfl
        have hmn : m ≤ ns.length := by rw [← hm, (CP_valid hge).2.2.2]; exact (CPn_nonneg _ _ _).2
        have hge2 := hge
        rw [hns] at hge2
        obtain ⟨-, hn0, hcp⟩ := CP_cons hge2
        rw [← hns, hm] at hcp
        obtain ⟨us, hus⟩ : ∃ us, us = US r xs n0 := ⟨_, rfl⟩
        rw [← hus] at hcp
        obtain ⟨k, hk⟩ : ∃ k, CP r us nt = k := ⟨_, rfl⟩
        rw [hk] at hcp
        have hk0 : 0 ≤ k ∧ k ≤ 1000 := by
          obtain ⟨-, e2, e3, -⟩ := CP_valid hge2
          rw [List.length_cons] at e2
          have e4 : allL nt 0 9 = true := by simp [allL] at e3 ⊢; exact e3.2
          rw [← hk, CP_ok (by rw [hus]; exact VCa_US hv hn0) (by omega) e4]
          have := CPn_nonneg r nt us
          omega
        have N5 : Hid (∀ W A C a c n, SlI W A a us → SlI W C c nt → n = nt.length → Calls Try.prog 13 #[.agg #[.int .i64 r, .slice A us.length a], .slice C n c] W (fun e w' => e = .returned (.int .i64 k) ∧ Below W.heap.size W w')) := hd (fun W A C a c n s sa hn => by subst hn; have := cp_any r A a us C c nt W s sa; rwa [hk] at this)
        have gm : decide (m ≤ (ns.length : Int)) = true := decide_eq_true hmn
        have HNL := hd hnl
        have HDR := hd hdr
        have HAT := hd hat
        cases hb0 : hasB xs n0 with
        | false =>
          rw [hb0] at hcp
          have ho : USE r xs n0 = some (us, false) := by rw [USE_ok hv hn0, hb0, hus]
          have HO := hd ho
          have hwk : IntKind.i64.wrap (k + 1) = k + 1 := by rw [IntKind.wrap_i64]; omega
          have gk : (k + 1 == m) = true := beq_iff_eq.2 (by rw [hcp]; simp; omega)
          clear hl hv hge hge2 hm hns hat hdr hnl hmn hn0 hcp hus hk hk0 hb0 ho
          have S_0 := S.bx.c0; have S_1 := S.bx.c1
          go_wp2_with fail
          refine (N1.out _ _ _ _ _ S.sx sE).mono ?_
          rintro e w2 ⟨rfl, hx⟩
          clear S_0 S_1
          replace sE := sE.ext hx; replace S := S.ext hx; replace hb := ext_trans hb hx; clear hx
          have S_0 := S.bx.c0; have S_1 := S.bx.c1
          go_wp2_with fail
          refine (N2.out _ _ _ _ _ S.sx sE).mono ?_
          rintro e w3 ⟨rfl, hx⟩
          clear S_0 S_1
          replace sE := sE.ext hx; replace S := S.ext hx; replace hb := ext_trans hb hx; clear hx
          clear N1 N2
          obtain ⟨G, hG⟩ : ∃ G, G = w1.heap.size := ⟨_, rfl⟩
          rw [← hG] at S ⊢
          clear hG
          obtain ⟨ad, rfl, hal, -⟩ := SlI.at sE h0
          have hGl := S.bx.lt
          have S_0 := S.bx.c0; have S_1 := S.bx.c1
          have a0 := SlI.atN sE h0
          have EA := hd (show ad.add 0 = ad from by unfold Addr.add; split <;> simp_all)
          rw [HAT.out, EA.out] at a0
          go_upto_region 7 with fail
          have G5 : Hid (∀ W, Below w3.heap.size w3 W → Calls Try.prog 15 #[.agg #[.int .i64 r, .slice P xs.length p], .int .i64 n0] W (fun e w' => (∃ (A1 : Option Addr) (c1 : Nat), e = .returned (.tuple #[.agg #[.int .i64 r, .slice A1 us.length c1], .bool false]) ∧ RwI w' W.heap.size A1 c1 us) ∧ Below W.heap.size W w' ∧ (∀ g i, g < W.heap.size → w'.cell? ⟨g, i, none⟩ = W.cell? ⟨g, i, none⟩) ∧ (∀ g i, g < W.heap.size → w'.frozen? ⟨g, i, none⟩ = W.frozen? ⟨g, i, none⟩))) := hd (fun W hB => by
              have := us_any r P p xs n0 W (S.sx.ext hB)
              rw [HO.out] at this
              refine this.mono ?_
              rintro e w' ⟨A1, c1, rfl, rw1, hx⟩
              exact ⟨⟨A1, c1, rfl, rw1⟩, hx, fun g i hl => World.cell?_of_block (hx.block g hl), fun g i hl => World.frozen?_of_block (hx.block g hl)⟩)
          have HS := hd (And.intro S (And.intro sE hb))
          clear S sE hb
          go_cut [6, 7] (fun s6 s7 wx => (∃ (g : Nat) (A1 : Option Addr) (c1 : Nat), s6 = .pointer (some ⟨g, 0, none⟩) ∧ Hc wx g r A1 c1 us) ∧ s7 = .bool false ∧ SlI wx (some ad) f ns ∧ Below w.heap.size w wx)
          case first =>
            have q1 : w3.heap.size ≠ G := by omega
            have q2 : G ≠ w3.heap.size := by omega
            have q3 : w3.heap.size ≠ ad.block := by omega
            have q4 : ad.block ≠ w3.heap.size := by omega
            go_region_held3 (fun W => W.cell? ⟨G, 0, none⟩ = some (.int .i64 r) ∧ W.cell? ⟨G, 1, none⟩ = some (.slice P xs.length p) ∧ W.cell? ad = some (.int .i64 n0)) (go_keep)
              (first
                | (go_at_call 15; (with_reducible refine (G5.out _ (by first | exact ext_drew (Below.refl _ _) | exact ext_drew (ext_alloc (Below.refl _ _) _))).mono ?_); rintro e wA ⟨⟨zA, za, rfl, rw⟩, hB, hk1, hk2⟩; have RW := hd rw; have HB := hd hB; have hB0 : Below w3.heap.size w3 wA := (ext_trans (by first | exact ext_drew (Below.refl _ _) | exact ext_drew (ext_alloc (Below.refl _ _) _)) hB); have hsz := hB0.size; have SA := HS.out.1.ext hB0; have d0 := SA.bx.c0; have d1 := SA.bx.c1; have d2 := SlI.atN (SlI.ext HS.out.2.1 hB0) h0; rw [HAT.out, EA.out] at d2; have r1 : wA.heap.size ≠ G := (by omega); have r2 : G ≠ wA.heap.size := (by omega); have r3 : wA.heap.size ≠ ad.block := (by omega); have r4 : ad.block ≠ wA.heap.size := (by omega); have HB0 := hd hB0; clear rw hB hB0 SA)
                | fail)
            all_goals (go_wp2_with fail; go_meet)
            all_goals (first
              | (have h5 : (w3.alloc (.cells #[.int .i64 0, .slice none 0 0] 31)).drew.heap.size = w3.heap.size + 1 := World.size_alloc _ _; have sa := SlI.cput2 (g := w3.heap.size) (a := .int .i64 r) (b := .slice zA us.length za) RW.out.sl (fun j hj => by have := (Rw.row RW.out j hj).1; omega); have cx := ((Cx.ext (w := (w3.alloc (.cells #[.int .i64 0, .slice none 0 0] 31)).drew) (show Cx 31 _ _ _ _ from Cx.new w3 _ _) HB.out).put0 (a := .int .i64 r)).put1 (a := .slice zA us.length za); have hX := cset2_old (a := .int .i64 r) (b := .slice zA us.length za) HB0.out (Nat.le_refl _); exact ⟨⟨_, zA, za, rfl, ⟨cx, sa⟩⟩, rfl, SlI.ext HS.out.2.1 hX, ext_trans HS.out.2.2 hX⟩)
              | exact ⟨⟨_, zA, za, rfl, hc_new _ RW.out.sl⟩, rfl, SlI.ext HS.out.2.1 (ext_alloc HB0.out _), ext_trans HS.out.2.2 (ext_alloc HB0.out _)⟩)
          case rest =>
            clear HS a0
            clear S_0 S_1
            obtain ⟨⟨g, A1, c1, rfl, N⟩, rfl, sE, hb⟩ := hcut
            go_upto_region 8 with fail
            have hcf := sE.cap; have hmx := sE.max
            unfold maxLen at hmx
            have sd := SlI.drop sE (m := 1) (by omega)
            rw [HDR.out] at sd
            have c0 := N.bx.c0; have cc1 := N.bx.c1
            have HN := hd (And.intro N (And.intro sd hb))
            clear N sd hb sE
            have i1 : (1 : Int) ≤ (ns.length : Int) := by omega
            have i2 : (ns.length : Int) ≤ (f : Int) := by omega
            have i3 : (0 : Int) ≤ 1 := by omega
            by_cases hf : f = 1
            · have SD : Hid (SlI wc (some ad) 0 nt) := hd (by have := HN.out.2.1; rwa [if_pos hf, hf] at this)
              go_region_held3 (fun W => W.cell? ⟨g, 0, none⟩ = some (.int .i64 r) ∧ W.cell? ⟨g, 1, none⟩ = some (.slice A1 us.length c1)) (go_keep)
                (first
                  | (go_at_call 13; (refine (N5.out _ _ _ _ _ _ (HN.out.1.sx.ext (ext_drew (Below.refl _ _))) (SlI.ext SD.out (ext_drew (Below.refl _ _))) (by have := HNL.out; omega)).mono ?_); rintro e wC ⟨rfl, hx⟩; have NC := (HN.out.1.ext (ext_drew (Below.refl _ _))).ext hx; have d0 := NC.bx.c0; have d1 := NC.bx.c1; have FIN := hd (ext_trans (ext_trans HN.out.2.2 (ext_drew (Below.refl _ _))) hx); clear hx NC)
                  | fail)
              all_goals (go_wp2; go_ret; exact ⟨rfl, FIN.out⟩)
            · have SD : Hid (SlI wc (some (ad.add 1)) (f - 1) nt) := hd (by have := HN.out.2.1; rwa [if_neg hf] at this)
              go_region_held3 (fun W => W.cell? ⟨g, 0, none⟩ = some (.int .i64 r) ∧ W.cell? ⟨g, 1, none⟩ = some (.slice A1 us.length c1)) (go_keep)
                (first
                  | (go_at_call 13; (refine (N5.out _ _ _ _ _ _ (HN.out.1.sx.ext (ext_drew (Below.refl _ _))) (SlI.ext SD.out (ext_drew (Below.refl _ _))) (by have := HNL.out; omega)).mono ?_); rintro e wC ⟨rfl, hx⟩; have NC := (HN.out.1.ext (ext_drew (Below.refl _ _))).ext hx; have d0 := NC.bx.c0; have d1 := NC.bx.c1; have FIN := hd (ext_trans (ext_trans HN.out.2.2 (ext_drew (Below.refl _ _))) hx); clear hx NC)
                  | fail)
              all_goals (go_wp2; go_ret; exact ⟨rfl, FIN.out⟩)
        | true =>
          rw [hb0] at hcp
          have ho : USE r xs n0 = some (us, true) := by rw [USE_ok hv hn0, hb0, hus]
          have HO := hd ho
          have gk : (k == m) = true := beq_iff_eq.2 (by rw [hcp]; simp)
          clear hl hv hge hge2 hm hns hat hdr hnl hmn hn0 hcp hus hk hk0 hb0 ho
          have S_0 := S.bx.c0; have S_1 := S.bx.c1
          go_wp2_with fail
          refine (N1.out _ _ _ _ _ S.sx sE).mono ?_
          rintro e w2 ⟨rfl, hx⟩
          clear S_0 S_1
          replace sE := sE.ext hx; replace S := S.ext hx; replace hb := ext_trans hb hx; clear hx
          have S_0 := S.bx.c0; have S_1 := S.bx.c1
          go_wp2_with fail
          refine (N2.out _ _ _ _ _ S.sx sE).mono ?_
          rintro e w3 ⟨rfl, hx⟩
          clear S_0 S_1
          replace sE := sE.ext hx; replace S := S.ext hx; replace hb := ext_trans hb hx; clear hx
          clear N1 N2
          obtain ⟨G, hG⟩ : ∃ G, G = w1.heap.size := ⟨_, rfl⟩
          rw [← hG] at S ⊢
          clear hG
          obtain ⟨ad, rfl, hal, -⟩ := SlI.at sE h0
          have hGl := S.bx.lt
          have S_0 := S.bx.c0; have S_1 := S.bx.c1
          have a0 := SlI.atN sE h0
          have EA := hd (show ad.add 0 = ad from by unfold Addr.add; split <;> simp_all)
          rw [HAT.out, EA.out] at a0
          go_upto_region 7 with fail
          have G5 : Hid (∀ W, Below w3.heap.size w3 W → Calls Try.prog 15 #[.agg #[.int .i64 r, .slice P xs.length p], .int .i64 n0] W (fun e w' => (∃ (A1 : Option Addr) (c1 : Nat), e = .returned (.tuple #[.agg #[.int .i64 r, .slice A1 us.length c1], .bool true]) ∧ RwI w' W.heap.size A1 c1 us) ∧ Below W.heap.size W w' ∧ (∀ g i, g < W.heap.size → w'.cell? ⟨g, i, none⟩ = W.cell? ⟨g, i, none⟩) ∧ (∀ g i, g < W.heap.size → w'.frozen? ⟨g, i, none⟩ = W.frozen? ⟨g, i, none⟩))) := hd (fun W hB => by
              have := us_any r P p xs n0 W (S.sx.ext hB)
              rw [HO.out] at this
              refine this.mono ?_
              rintro e w' ⟨A1, c1, rfl, rw1, hx⟩
              exact ⟨⟨A1, c1, rfl, rw1⟩, hx, fun g i hl => World.cell?_of_block (hx.block g hl), fun g i hl => World.frozen?_of_block (hx.block g hl)⟩)
          have HS := hd (And.intro S (And.intro sE hb))
          clear S sE hb
          go_cut [6, 7] (fun s6 s7 wx => (∃ (g : Nat) (A1 : Option Addr) (c1 : Nat), s6 = .pointer (some ⟨g, 0, none⟩) ∧ Hc wx g r A1 c1 us) ∧ s7 = .bool true ∧ SlI wx (some ad) f ns ∧ Below w.heap.size w wx)
          case first =>
            have q1 : w3.heap.size ≠ G := by omega
            have q2 : G ≠ w3.heap.size := by omega
            have q3 : w3.heap.size ≠ ad.block := by omega
            have q4 : ad.block ≠ w3.heap.size := by omega
            go_region_held3 (fun W => W.cell? ⟨G, 0, none⟩ = some (.int .i64 r) ∧ W.cell? ⟨G, 1, none⟩ = some (.slice P xs.length p) ∧ W.cell? ad = some (.int .i64 n0)) (go_keep)
              (first
                | (go_at_call 15; (with_reducible refine (G5.out _ (by first | exact ext_drew (Below.refl _ _) | exact ext_drew (ext_alloc (Below.refl _ _) _))).mono ?_); rintro e wA ⟨⟨zA, za, rfl, rw⟩, hB, hk1, hk2⟩; have RW := hd rw; have HB := hd hB; have hB0 : Below w3.heap.size w3 wA := (ext_trans (by first | exact ext_drew (Below.refl _ _) | exact ext_drew (ext_alloc (Below.refl _ _) _)) hB); have hsz := hB0.size; have SA := HS.out.1.ext hB0; have d0 := SA.bx.c0; have d1 := SA.bx.c1; have d2 := SlI.atN (SlI.ext HS.out.2.1 hB0) h0; rw [HAT.out, EA.out] at d2; have r1 : wA.heap.size ≠ G := (by omega); have r2 : G ≠ wA.heap.size := (by omega); have r3 : wA.heap.size ≠ ad.block := (by omega); have r4 : ad.block ≠ wA.heap.size := (by omega); have HB0 := hd hB0; clear rw hB hB0 SA)
                | fail)
            all_goals (go_wp2_with fail; go_meet)
            all_goals (first
              | (have h5 : (w3.alloc (.cells #[.int .i64 0, .slice none 0 0] 31)).drew.heap.size = w3.heap.size + 1 := World.size_alloc _ _; have sa := SlI.cput2 (g := w3.heap.size) (a := .int .i64 r) (b := .slice zA us.length za) RW.out.sl (fun j hj => by have := (Rw.row RW.out j hj).1; omega); have cx := ((Cx.ext (w := (w3.alloc (.cells #[.int .i64 0, .slice none 0 0] 31)).drew) (show Cx 31 _ _ _ _ from Cx.new w3 _ _) HB.out).put0 (a := .int .i64 r)).put1 (a := .slice zA us.length za); have hX := cset2_old (a := .int .i64 r) (b := .slice zA us.length za) HB0.out (Nat.le_refl _); exact ⟨⟨_, zA, za, rfl, ⟨cx, sa⟩⟩, rfl, SlI.ext HS.out.2.1 hX, ext_trans HS.out.2.2 hX⟩)
              | exact ⟨⟨_, zA, za, rfl, hc_new _ RW.out.sl⟩, rfl, SlI.ext HS.out.2.1 (ext_alloc HB0.out _), ext_trans HS.out.2.2 (ext_alloc HB0.out _)⟩)
          case rest =>
            clear HS a0
            clear S_0 S_1
            obtain ⟨⟨g, A1, c1, rfl, N⟩, rfl, sE, hb⟩ := hcut
            go_upto_region 8 with fail
            have hcf := sE.cap; have hmx := sE.max
            unfold maxLen at hmx
            have sd := SlI.drop sE (m := 1) (by omega)
            rw [HDR.out] at sd
            have c0 := N.bx.c0; have cc1 := N.bx.c1
            have HN := hd (And.intro N (And.intro sd hb))
            clear N sd hb sE
            have i1 : (1 : Int) ≤ (ns.length : Int) := by omega
            have i2 : (ns.length : Int) ≤ (f : Int) := by omega
            have i3 : (0 : Int) ≤ 1 := by omega
            by_cases hf : f = 1
            · have SD : Hid (SlI wc (some ad) 0 nt) := hd (by have := HN.out.2.1; rwa [if_pos hf, hf] at this)
              go_region_held3 (fun W => W.cell? ⟨g, 0, none⟩ = some (.int .i64 r) ∧ W.cell? ⟨g, 1, none⟩ = some (.slice A1 us.length c1)) (go_keep)
                (first
                  | (go_at_call 13; (refine (N5.out _ _ _ _ _ _ (HN.out.1.sx.ext (ext_drew (Below.refl _ _))) (SlI.ext SD.out (ext_drew (Below.refl _ _))) (by have := HNL.out; omega)).mono ?_); rintro e wC ⟨rfl, hx⟩; have NC := (HN.out.1.ext (ext_drew (Below.refl _ _))).ext hx; have d0 := NC.bx.c0; have d1 := NC.bx.c1; have FIN := hd (ext_trans (ext_trans HN.out.2.2 (ext_drew (Below.refl _ _))) hx); clear hx NC)
                  | fail)
              all_goals (go_wp2; go_ret; exact ⟨rfl, FIN.out⟩)
            · have SD : Hid (SlI wc (some (ad.add 1)) (f - 1) nt) := hd (by have := HN.out.2.1; rwa [if_neg hf] at this)
              go_region_held3 (fun W => W.cell? ⟨g, 0, none⟩ = some (.int .i64 r) ∧ W.cell? ⟨g, 1, none⟩ = some (.slice A1 us.length c1)) (go_keep)
                (first
                  | (go_at_call 13; (refine (N5.out _ _ _ _ _ _ (HN.out.1.sx.ext (ext_drew (Below.refl _ _))) (SlI.ext SD.out (ext_drew (Below.refl _ _))) (by have := HNL.out; omega)).mono ?_); rintro e wC ⟨rfl, hx⟩; have NC := (HN.out.1.ext (ext_drew (Below.refl _ _))).ext hx; have d0 := NC.bx.c0; have d1 := NC.bx.c1; have FIN := hd (ext_trans (ext_trans HN.out.2.2 (ext_drew (Below.refl _ _))) hx); clear hx NC)
                  | fail)
              all_goals (go_wp2; go_ret; exact ⟨rfl, FIN.out⟩)
end Go.Proofs.Ytmenknnncjbbpaa
