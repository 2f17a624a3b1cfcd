/- The walk of laws.FnNextOwner. -/
import Derived.Test.YtiaianjnelgpiaaWSv
import Derived.Test.YtiaianjnelgpiaaWSg
import Derived.Test.YtiaianjnelgpiaaWSc
import Derived.Test.YtiaianjnelgpiaaDrN
import Derived.Test.YtiaianjnelgpiaaPSl
import Derived.Deep.DeepCutAuto
namespace Go.Proofs.Ytiaianjnelgpiaa
open Go.RowKit
set_option maxRecDepth 100000 in
set_option maxHeartbeats 4000000 in
theorem lawNextOwner (A : Option Addr) (n c : Nat) (w : World) (h : SlB w A n c) :
    Calls Try.prog 9 #[.slice A n c] w fun e w' => e = .returned (.bool true) ∧ Below w.heap.size w w' := by
  have hmax := h.2.1
  have hcap := h.1
  unfold maxLen at hmax
  by_cases hn : 1048576 < n
  · go_enter Try.func9, Try.ntmps9
    go_wp2
    go_ret
    exact ⟨rfl, Below.refl _ _⟩
  · go_enter Try.func9, Try.ntmps9
    go_wp2_with fail
    refine (drawNextOwner_any A n c w h).mono ?_
    rintro e w1 ⟨t, P, p, xs, Q, q, ys, E, f, asks, rfl, t0, t1, sP, sQ, l1, l2, sE, lE, hb, -, -, -⟩
    clear h
    go_upto_region 4 with fail
    obtain ⟨X1, hX⟩ : ∃ W, W = w1.alloc (.cells #[.int .i64 t, .slice P xs.length p, .slice Q ys.length q] 25) := ⟨_, rfl⟩
    rw [← hX]
    have S : Hs X1 w1.heap.size t P p xs Q q ys := by rw [hX]; exact hs_new w1 sP sQ
    have hx : Below w1.heap.size w1 X1 := by rw [hX]; exact ext_alloc (Below.refl _ _) _
    clear hX
    replace sE := sE.ext hx; replace hb := ext_trans hb hx; clear hx
    clear sP sQ
    obtain ⟨m, hm⟩ : ∃ m, NO t xs ys asks = m := ⟨_, rfl⟩
    have N1 : Hid (∀ W A B C a b c, SlI W A a xs → SlI W B b ys → SlI W C c asks → Calls Try.prog 22 #[.agg #[.int .i64 t, .slice A xs.length a, .slice B ys.length b], .slice C asks.length c] W (fun e w' => e = .returned (.int .i64 m) ∧ Below W.heap.size W w')) := hd (fun W A B C a b c s s' sa => by have := no_any t A a xs B b ys C c asks W s s' sa; rwa [hm] at this)
    have N2 : Hid (∀ W A B C a b c, SlI W A a xs → SlI W B b ys → SlI W C c asks → Calls Try.prog 24 #[.agg #[.int .i64 t, .slice A xs.length a, .slice B ys.length b], .slice C asks.length c] W (fun e w' => e = .returned (.int .i64 m) ∧ Below W.heap.size W w')) := hd (fun W A B C a b c s s' sa => by have := sno_any t A a xs B b ys C c asks W s s' sa; rwa [hm] at this)
    by_cases hneg : m < 0
    · have g0 : decide (m < 0) = true := decide_eq_true hneg
      have g1 : (m != m) = false := by simp
      have g2 : (m == m) = true := by simp
      clear hneg hm
      have S_0 := S.bx.c0; have S_1 := S.bx.c1; have S_2 := S.bx.c2
      go_wp2_with fail
      refine (N1.out _ _ _ _ _ _ _ S.sx S.sy sE).mono ?_
      rintro e w2 ⟨rfl, hx⟩
      clear S_0 S_1 S_2
      replace sE := sE.ext hx; replace S := S.ext hx; replace hb := ext_trans hb hx; clear hx
      have S_0 := S.bx.c0; have S_1 := S.bx.c1; have S_2 := S.bx.c2
      go_wp2_with fail
      refine (N2.out _ _ _ _ _ _ _ S.sx S.sy sE).mono ?_
      rintro e w3 ⟨rfl, hx⟩
      clear S_0 S_1 S_2
      replace sE := sE.ext hx; replace S := S.ext hx; replace hb := ext_trans hb hx; clear hx
      have S_0 := S.bx.c0; have S_1 := S.bx.c1; have S_2 := S.bx.c2
      go_wp2_with fail
      refine (N2.out _ _ _ _ _ _ _ S.sx S.sy sE).mono ?_
      rintro e w4 ⟨rfl, hx⟩
      clear S_0 S_1 S_2
      replace sE := sE.ext hx; replace S := S.ext hx; replace hb := ext_trans hb hx; clear hx
      have FIN := hd hb
      clear hb
      go_wp2
      go_ret
      exact ⟨rfl, FIN.out⟩
    · have g0 : decide (m < 0) = false := decide_eq_false hneg
      obtain ⟨n, rfl⟩ : ∃ n : Nat, m = (n : Int) := ⟨m.toNat, by omega⟩
      obtain ⟨hv, hl12, hq, hG, hfirst⟩ := NO_at hm
      have hnl := hG.lt
      have g1 : ((n : Int) != (n : Int)) = false := by simp
      have g3 : decide ((asks.length : Int) ≤ (n : Int)) = false := decide_eq_false (by omega)
      have g3b : decide (asks.length ≤ n) = false := decide_eq_false (by omega)
      obtain ⟨hgv, hAD⟩ := hG.give hv hq
      obtain ⟨lY, lY5, lX5⟩ := valid_len hv
      have hn0 := allL_at0 hq hnl
      have HQ := hd hq
      have HL := hd hG.least
      have HF := hd hfirst
      have HAD := hd hAD
      clear hneg hm hv hgv hAD hG hfirst hq
      have S_0 := S.bx.c0; have S_1 := S.bx.c1; have S_2 := S.bx.c2
      go_wp2_with fail
      refine (N1.out _ _ _ _ _ _ _ S.sx S.sy sE).mono ?_
      rintro e w2 ⟨rfl, hx⟩
      clear S_0 S_1 S_2
      replace sE := sE.ext hx; replace S := S.ext hx; replace hb := ext_trans hb hx; clear hx
      have S_0 := S.bx.c0; have S_1 := S.bx.c1; have S_2 := S.bx.c2
      go_wp2_with fail
      refine (N2.out _ _ _ _ _ _ _ S.sx S.sy sE).mono ?_
      rintro e w3 ⟨rfl, hx⟩
      clear S_0 S_1 S_2
      replace sE := sE.ext hx; replace S := S.ext hx; replace hb := ext_trans hb hx; clear hx
      clear N1 N2
      obtain ⟨G, hG⟩ : ∃ G, G = w1.heap.size := ⟨_, rfl⟩
      rw [← hG] at S ⊢
      clear hG
      go_wp2_with fail
      go_loopw [6, 7] (fun i _ wr => ∃ k : Nat, k ≤ asks.length ∧ i = .int .i64 k ∧ Hs wr G t P p xs Q q ys ∧ SlI wr E f asks ∧ Below w.heap.size w wr) (fun i _ _ => asks.length - (intOf i).toNat)
      case atStart => exact ⟨0, by omega, rfl, S, sE, hb⟩
      case round =>
        clear S sE hb
        obtain ⟨k, hk, rfl, S, sE, hb⟩ := hrel
        by_cases hlt : k < asks.length
        · have hk0 := allL_at0 HQ.out hlt
          have hk1 := hk0.1
          have hk2 : at0 asks k < 5 := by omega
          have hn1 := hn0.1
          have hn2 : at0 asks n < 5 := by omega
          obtain ⟨ada, rfl, -, -⟩ := SlI.at sE hlt
          obtain ⟨adx, rfl, -, -⟩ := SlI.at S.sx (i := (at0 asks k).toNat) (by omega)
          obtain ⟨ady, rfl, -, -⟩ := SlI.at S.sy (i := (at0 asks k).toNat) (by omega)
          have a0 := SlI.atN sE hlt
          have an := SlI.atN sE hnl
          have x0 := SlI.atN S.sx (i := (at0 asks k).toNat) (by omega)
          have y0 := SlI.atN S.sy (i := (at0 asks k).toNat) (by omega)
          have yn := SlI.atN S.sy (i := (at0 asks n).toNat) (by omega)
          have S_0 := S.bx.c0; have S_1 := S.bx.c1; have S_2 := S.bx.c2
          have HS := hd (And.intro S (And.intro sE hb))
          clear S sE hb
          by_cases cA : at0 ys (at0 asks k).toNat < at0 xs (at0 asks k).toNat
          · have gA : decide (at0 ys (at0 asks k).toNat < at0 xs (at0 asks k).toNat) = true := decide_eq_true cA
            have hle : at0 ys (at0 asks n).toNat ≤ at0 ys (at0 asks k).toNat := HL.out k hlt cA
            have gB : decide (at0 ys (at0 asks k).toNat < at0 ys (at0 asks n).toNat) = false := decide_eq_false (by omega)
            by_cases cC : at0 ys (at0 asks k).toNat = at0 ys (at0 asks n).toNat
            · have gC : (at0 ys (at0 asks k).toNat == at0 ys (at0 asks n).toNat) = true := beq_iff_eq.2 cC
              have hnk : n ≤ k := HF.out k hlt cA cC
              have gD : decide ((k : Int) < (n : Int)) = false := decide_eq_false (by omega)
              have gD2 : decide (k < n) = false := decide_eq_false (by omega)
              clear cC cA hle
              go_wp2_with fail
              go_quiet (fail)
              go_wp2
              go_roundw
              case rel => exact ⟨k + 1, by omega, by go_num, HS.out.1.ext (below_drewN (Below.refl _ _) _), SlI.ext HS.out.2.1 (below_drewN (Below.refl _ _) _), below_drewN HS.out.2.2 _⟩
              case measure => simp [intOf]; omega
            · have gC : (at0 ys (at0 asks k).toNat == at0 ys (at0 asks n).toNat) = false := beq_eq_false_iff_ne.2 cC
              clear cC cA hle
              go_wp2_with fail
              go_quiet (fail)
              go_wp2
              go_roundw
              case rel => exact ⟨k + 1, by omega, by go_num, HS.out.1.ext (below_drewN (Below.refl _ _) _), SlI.ext HS.out.2.1 (below_drewN (Below.refl _ _) _), below_drewN HS.out.2.2 _⟩
              case measure => simp [intOf]; omega
          · have gA : decide (at0 ys (at0 asks k).toNat < at0 xs (at0 asks k).toNat) = false := decide_eq_false cA
            clear cA
            go_wp2_with fail
            go_quiet (fail)
            go_wp2
            go_roundw
            case rel => exact ⟨k + 1, by omega, by go_num, HS.out.1.ext (below_drewN (Below.refl _ _) _), SlI.ext HS.out.2.1 (below_drewN (Below.refl _ _) _), below_drewN HS.out.2.2 _⟩
            case measure => simp [intOf]; omega
        · obtain rfl : k = asks.length := by omega
          obtain ⟨ad, rfl, -, -⟩ := SlI.at sE hnl
          obtain ⟨zs, hzs⟩ : ∃ zs, chg ys (at0 asks n).toNat 1 = zs := ⟨_, rfl⟩
          have hAD := HAD.out
          rw [hzs] at hAD
          have GVB : Hid (∀ W, Below wr.heap.size wr W → Calls Try.prog 17 #[.agg #[.int .i64 t, .slice P xs.length p, .slice Q ys.length q], .int .i64 (at0 asks n)] W (fun e w' => (∃ P1 p1 Q1 q1, e = .returned (.tuple #[.agg #[.int .i64 t, .slice P1 xs.length p1, .slice Q1 zs.length q1], .bool true])) ∧ Below wr.heap.size wr w' ∧ (∀ g i, g < W.heap.size → w'.cell? ⟨g, i, none⟩ = W.cell? ⟨g, i, none⟩) ∧ (∀ g i, g < W.heap.size → w'.frozen? ⟨g, i, none⟩ = W.frozen? ⟨g, i, none⟩))) := hd (fun W hB => by
              have := gv_any t P p xs Q q ys ((at0 asks n)) W (S.sx.ext hB) (S.sy.ext hB)
              rw [hAD] at this
              refine this.mono ?_
              rintro e w' ⟨P1, p1, Q1, q1, rfl, -, -, -, hx⟩
              exact ⟨⟨P1, p1, Q1, q1, rfl⟩, ext_trans hB (hx.mono (Nat.le_refl _)), fun g i hl => World.cell?_of_block (hx.block g hl), fun g i hl => World.frozen?_of_block (hx.block g hl)⟩)
          clear hAD hzs
          go_upto_region 13 with fail
          have S_0 := S.bx.c0; have S_1 := S.bx.c1; have S_2 := S.bx.c2
          have a0 := SlI.atN sE hnl
          have hGl := S.bx.lt
          have hal : ad.block < wr.heap.size := by obtain ⟨_, e, hb9, -⟩ := SlI.at sE hnl; injection e with e; subst e; exact hb9
          have q1 : wr.heap.size ≠ G := by omega
          have q2 : G ≠ wr.heap.size := by omega
          have q3 : wr.heap.size ≠ ad.block := by omega
          have q4 : ad.block ≠ wr.heap.size := by omega
          have q5 : wr.heap.size ≠ (ad.add n).block := by rw [blk_add]; omega
          have q6 : (ad.add n).block ≠ wr.heap.size := by rw [blk_add]; omega
          have HS := hd (And.intro S (And.intro sE hb))
          clear S hb sE
          go_region_held3 (fun W => W.cell? ⟨G, 0, none⟩ = some (.int .i64 t) ∧ W.cell? ⟨G, 1, none⟩ = some (.slice P xs.length p) ∧ W.cell? ⟨G, 2, none⟩ = some (.slice Q ys.length q) ∧ W.cell? (ad.add n) = some (.int .i64 (at0 asks n))) (go_keep)
            (first
              | (go_at_call 17; (with_reducible refine (GVB.out _ (by first | exact ext_drew (Below.refl _ _) | exact ext_drew (ext_alloc (Below.refl _ _) _))).mono ?_); rintro e wA ⟨⟨P1, p1, Q1, q1z, rfl⟩, hB, hk1, hk2⟩; have SA := HS.out.1.ext hB; have d0 := SA.bx.c0; have d1 := SA.bx.c1; have d2 := SA.bx.c2; have d3 := SlI.atN (SlI.ext HS.out.2.1 hB) hnl; have hsz := hB.size; have r1 : wA.heap.size ≠ G := (by omega); have r2 : G ≠ wA.heap.size := (by omega); have r3 : wA.heap.size ≠ ad.block := (by omega); have r4 : ad.block ≠ wA.heap.size := (by omega); have r5 : wA.heap.size ≠ (ad.add n).block := (by rw [blk_add]; omega); have r6 : (ad.add n).block ≠ wA.heap.size := (by rw [blk_add]; omega); have FIN := hd (And.intro SA (And.intro (SlI.ext HS.out.2.1 hB) (ext_trans HS.out.2.2 hB))); clear SA hB)
              | fail)
          all_goals (go_wp2; go_ret; refine ⟨rfl, ?_⟩; have y1 := HS.out.2.2.size; have y2 := FIN.out.2.2.size; first | exact FIN.out.2.2 | exact ext_alloc FIN.out.2.2 _ | exact FIN.out.2.2.grown (set3_grown0 _ _ _ _ _) y2 (fun k e => by injection e with e; omega) | exact Below.grown (ext_alloc FIN.out.2.2 _) (set3_grown0 _ _ _ _ _) (ext_alloc FIN.out.2.2 _).size (fun k e => by injection e with e; omega))
end Go.Proofs.Ytiaianjnelgpiaa
