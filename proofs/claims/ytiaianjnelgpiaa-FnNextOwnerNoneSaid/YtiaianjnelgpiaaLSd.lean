/- The walk of laws.FnNextOwnerNone. -/
import Derived.Test.YtiaianjnelgpiaaWSv
import Derived.Test.YtiaianjnelgpiaaWSg
import Derived.Test.YtiaianjnelgpiaaWSc
import Derived.Test.YtiaianjnelgpiaaDrN
import Derived.Test.YtiaianjnelgpiaaPSl
import Derived.Deep.DeepCutAuto
namespace Go.Proofs.Ytiaianjnelgpiaa
open Go.RowKit
set_option maxRecDepth 100000 in
set_option maxHeartbeats 4000000 in
theorem lawNextOwnerNone (A : Option Addr) (n c : Nat) (w : World) (h : SlB w A n c) :
    Calls Try.prog 10 #[.slice A n c] w fun e w' => e = .returned (.bool true) ∧ Below w.heap.size w w' := by
  have hmax := h.2.1
  have hcap := h.1
  unfold maxLen at hmax
  by_cases hn : 1048576 < n
  · go_enter Try.func10, Try.ntmps10
    go_wp2
    go_ret
    exact ⟨rfl, Below.refl _ _⟩
  · go_enter Try.func10, Try.ntmps10
    go_wp2_with fail
    refine (drawNextOwner_any A n c w h).mono ?_
    rintro e w1 ⟨t, P, p, xs, Q, q, ys, E, f, asks, rfl, t0, t1, sP, sQ, l1, l2, sE, lE, hb, -, -, -⟩
    clear h
    go_upto_region 4 with fail
    obtain ⟨X1, hX⟩ : ∃ W, W = w1.alloc (.cells #[.int .i64 t, .slice P xs.length p, .slice Q ys.length q] 25) := ⟨_, rfl⟩
    rw [← hX]
    have S : Hs X1 w1.heap.size t P p xs Q q ys := by rw [hX]; exact hs_new w1 sP sQ
    have hx : Below w1.heap.size w1 X1 := by rw [hX]; exact ext_alloc (Below.refl _ _) _
    clear hX
    replace sE := sE.ext hx; replace hb := ext_trans hb hx; clear hx
    clear sP sQ
    obtain ⟨m, hm⟩ : ∃ m, NO t xs ys asks = m := ⟨_, rfl⟩
    have N1 : Hid (∀ W A B C a b c, SlI W A a xs → SlI W B b ys → SlI W C c asks → Calls Try.prog 22 #[.agg #[.int .i64 t, .slice A xs.length a, .slice B ys.length b], .slice C asks.length c] W (fun e w' => e = .returned (.int .i64 m) ∧ Below W.heap.size W w')) := hd (fun W A B C a b c s s' sa => by have := no_any t A a xs B b ys C c asks W s s' sa; rwa [hm] at this)
    have N2 : Hid (∀ W A B C a b c, SlI W A a xs → SlI W B b ys → SlI W C c asks → Calls Try.prog 24 #[.agg #[.int .i64 t, .slice A xs.length a, .slice B ys.length b], .slice C asks.length c] W (fun e w' => e = .returned (.int .i64 m) ∧ Below W.heap.size W w')) := hd (fun W A B C a b c s s' sa => by have := sno_any t A a xs B b ys C c asks W s s' sa; rwa [hm] at this)
    have g1 : (m != m) = false := by simp
    have g2 : (m == m) = true := by simp
    by_cases hneg : 0 ≤ m
    · have g0 : decide (0 ≤ m) = true := decide_eq_true hneg
      clear hneg hm
      have S_0 := S.bx.c0; have S_1 := S.bx.c1; have S_2 := S.bx.c2
      go_wp2_with fail
      refine (N1.out _ _ _ _ _ _ _ S.sx S.sy sE).mono ?_
      rintro e w2 ⟨rfl, hx⟩
      clear S_0 S_1 S_2
      replace sE := sE.ext hx; replace S := S.ext hx; replace hb := ext_trans hb hx; clear hx
      have S_0 := S.bx.c0; have S_1 := S.bx.c1; have S_2 := S.bx.c2
      go_wp2_with fail
      refine (N2.out _ _ _ _ _ _ _ S.sx S.sy sE).mono ?_
      rintro e w3 ⟨rfl, hx⟩
      clear S_0 S_1 S_2
      replace sE := sE.ext hx; replace S := S.ext hx; replace hb := ext_trans hb hx; clear hx
      have S_0 := S.bx.c0; have S_1 := S.bx.c1; have S_2 := S.bx.c2
      go_wp2_with fail
      refine (N2.out _ _ _ _ _ _ _ S.sx S.sy sE).mono ?_
      rintro e w4 ⟨rfl, hx⟩
      clear S_0 S_1 S_2
      replace sE := sE.ext hx; replace S := S.ext hx; replace hb := ext_trans hb hx; clear hx
      have FIN := hd hb
      clear hb
      go_wp2
      go_ret
      exact ⟨rfl, FIN.out⟩
    · have g0 : decide (0 ≤ m) = false := decide_eq_false hneg
      by_cases hl : asks.length ≤ 12
      · have g3 : decide ((12 : Int) < (asks.length : Int)) = false := decide_eq_false (by omega)
        have g3b : decide (12 < asks.length) = false := decide_eq_false (by omega)
        have HNN := hd (fun (ha : allL asks 0 4 = true) i (hi : i < asks.length) => NO_none (t := t) (xs := xs) (ys := ys) (by rw [hm]; omega) hl ha hi)
        clear hm hneg
        have S_0 := S.bx.c0; have S_1 := S.bx.c1; have S_2 := S.bx.c2
        go_wp2_with fail
        refine (N1.out _ _ _ _ _ _ _ S.sx S.sy sE).mono ?_
        rintro e w2 ⟨rfl, hx⟩
        clear S_0 S_1 S_2
        replace sE := sE.ext hx; replace S := S.ext hx; replace hb := ext_trans hb hx; clear hx
        have S_0 := S.bx.c0; have S_1 := S.bx.c1; have S_2 := S.bx.c2
        go_wp2_with fail
        refine (N2.out _ _ _ _ _ _ _ S.sx S.sy sE).mono ?_
        rintro e w3 ⟨rfl, hx⟩
        clear S_0 S_1 S_2
        replace sE := sE.ext hx; replace S := S.ext hx; replace hb := ext_trans hb hx; clear hx
        clear N1 N2
        obtain ⟨G, hG⟩ : ∃ G, G = w1.heap.size := ⟨_, rfl⟩
        rw [← hG] at S ⊢
        clear hG
        have HE := hd sE
        go_wp2_with fail
        go_loop [6] (fun i => ∃ k : Nat, k ≤ asks.length ∧ i = .int .i64 k ∧ Hid (∀ j, j < k → 0 ≤ at0 asks j ∧ at0 asks j ≤ 4)) (fun i => asks.length - (intOf i).toNat)
        case atStart => exact ⟨0, Nat.zero_le _, rfl, fun j hj => absurd hj (Nat.not_lt_zero _)⟩
        case round =>
          obtain ⟨k, hk, rfl, HV⟩ := hrel
          by_cases hlt : k < asks.length
          · obtain ⟨ad, rfl, -, -⟩ := SlI.at sE hlt
            have a0 := SlI.atN sE hlt
            by_cases c0 : at0 asks k < 0
            · have h0 : decide (at0 asks k < 0) = true := decide_eq_true c0
              clear c0 sE
              have FIN := hd hb
              clear hb
              go_wp2
              go_ret
              exact ⟨rfl, FIN.out⟩
            · have h0 : decide (at0 asks k < 0) = false := decide_eq_false c0
              by_cases c5 : 5 ≤ at0 asks k
              · have h5 : decide (5 ≤ at0 asks k) = true := decide_eq_true c5
                clear c0 c5 sE
                have FIN := hd hb
                clear hb
                go_wp2
                go_ret
                exact ⟨rfl, FIN.out⟩
              · have h5 : decide (5 ≤ at0 asks k) = false := decide_eq_false c5
                have HV2 := hd (fun j (hj : j < k + 1) => (show 0 ≤ at0 asks j ∧ at0 asks j ≤ 4 by
                  by_cases ej : j = k
                  · subst ej; omega
                  · exact HV.out j (by omega)))
                clear c0 c5
                go_wp2
                go_round
                case rel => exact ⟨k + 1, by omega, by go_num, HV2⟩
                case measure => simp [intOf]; omega
          · obtain rfl : k = asks.length := by omega
            have hq : allL asks 0 4 = true := by
              unfold allL
              rw [List.all_eq_true]
              intro x hx
              obtain ⟨i, hi, e⟩ := List.mem_iff_getElem.1 hx
              have := HV.out i hi
              rw [at0_of hi, e] at this
              exact inB_true this.1 this.2
            have HA := hd (fun i hi => HNN.out hq i hi)
            clear hq HV HNN hlt
            go_wp2_with fail
            go_loopw [7, 8, 9] (fun i _ _ wr => ∃ k : Nat, k ≤ asks.length ∧ i = .int .i64 k ∧ Hs wr G t P p xs Q q ys ∧ SlI wr E f asks ∧ Below w.heap.size w wr) (fun i _ _ _ => asks.length - (intOf i).toNat)
            case atStart => exact ⟨0, by omega, rfl, S, sE, hb⟩
            case round =>
              clear S sE hb HE
              obtain ⟨k, hk, rfl, S, sE, hb⟩ := hrel
              by_cases hlt : k < asks.length
              · have hAD := HA.out k hlt
                obtain ⟨ad, rfl, -, -⟩ := SlI.at sE hlt
                have GVB : Hid (∀ W, Below wr.heap.size wr W → Calls Try.prog 17 #[.agg #[.int .i64 t, .slice P xs.length p, .slice Q ys.length q], .int .i64 (at0 asks k)] W (fun e w' => e = .returned (.tuple #[.agg #[.int .i64 0, .slice none 0 0, .slice none 0 0], .bool false]) ∧ Below wr.heap.size wr w' ∧ (∀ g i, g < W.heap.size → w'.cell? ⟨g, i, none⟩ = W.cell? ⟨g, i, none⟩) ∧ (∀ g i, g < W.heap.size → w'.frozen? ⟨g, i, none⟩ = W.frozen? ⟨g, i, none⟩))) := hd (fun W hB => by
                    have := gv_any t P p xs Q q ys ((at0 asks k)) W (S.sx.ext hB) (S.sy.ext hB)
                    rw [hAD] at this
                    refine this.mono ?_
                    rintro e w' ⟨rfl, hx⟩
                    exact ⟨rfl, ext_trans hB (hx.mono (Nat.le_refl _)), fun g i hl => World.cell?_of_block (hx.block g hl), fun g i hl => World.frozen?_of_block (hx.block g hl)⟩)
                clear hAD
                go_upto_region 15 with fail
                have S_0 := S.bx.c0; have S_1 := S.bx.c1; have S_2 := S.bx.c2
                have a0 := SlI.atN sE hlt
                have hGl := S.bx.lt
                have hal : ad.block < wr.heap.size := by obtain ⟨_, e, hb9, -⟩ := SlI.at sE hlt; injection e with e; subst e; exact hb9
                have q1 : wr.heap.size ≠ G := by omega
                have q2 : G ≠ wr.heap.size := by omega
                have q3 : wr.heap.size ≠ ad.block := by omega
                have q4 : ad.block ≠ wr.heap.size := by omega
                have q5 : wr.heap.size ≠ (ad.add k).block := by rw [blk_add]; omega
                have q6 : (ad.add k).block ≠ wr.heap.size := by rw [blk_add]; omega
                have HS := hd (And.intro S (And.intro sE hb))
                clear S hb sE
                go_region_held3 (fun W => W.cell? ⟨G, 0, none⟩ = some (.int .i64 t) ∧ W.cell? ⟨G, 1, none⟩ = some (.slice P xs.length p) ∧ W.cell? ⟨G, 2, none⟩ = some (.slice Q ys.length q) ∧ W.cell? (ad.add k) = some (.int .i64 (at0 asks k))) (go_keep)
                  (first
                    | (go_at_call 17; (with_reducible refine (GVB.out _ (by first | exact ext_drew (Below.refl _ _) | exact ext_drew (ext_alloc (Below.refl _ _) _))).mono ?_); rintro e wA ⟨rfl, hB, hk1, hk2⟩; have SA := HS.out.1.ext hB; have d0 := SA.bx.c0; have d1 := SA.bx.c1; have d2 := SA.bx.c2; have d3 := SlI.atN (SlI.ext HS.out.2.1 hB) hlt; have hsz := hB.size; have r1 : wA.heap.size ≠ G := (by omega); have r2 : G ≠ wA.heap.size := (by omega); have r3 : wA.heap.size ≠ ad.block := (by omega); have r4 : ad.block ≠ wA.heap.size := (by omega); have r5 : wA.heap.size ≠ (ad.add k).block := (by rw [blk_add]; omega); have r6 : (ad.add k).block ≠ wA.heap.size := (by rw [blk_add]; omega); have FIN := hd (And.intro SA (And.intro (SlI.ext HS.out.2.1 hB) (ext_trans HS.out.2.2 hB))); have HB := hd hB; clear SA hB)
                    | fail)
                all_goals (go_wp2_with fail; go_roundw)
                all_goals first
                  | (simp [intOf]; omega)
                  | exact ⟨k + 1, by omega, by go_num, HS.out.1.ext (HB.out.grown (set3_grown0 _ _ _ _ _) HB.out.size (fun k e => by injection e with e; omega)), SlI.ext HS.out.2.1 (HB.out.grown (set3_grown0 _ _ _ _ _) HB.out.size (fun k e => by injection e with e; omega)), ext_trans HS.out.2.2 (HB.out.grown (set3_grown0 _ _ _ _ _) HB.out.size (fun k e => by injection e with e; omega))⟩
                  | exact ⟨k + 1, by omega, by go_num, HS.out.1.ext (ext_alloc HB.out _), SlI.ext HS.out.2.1 (ext_alloc HB.out _), ext_trans HS.out.2.2 (ext_alloc HB.out _)⟩
              · obtain rfl : k = asks.length := by omega
                have FIN := hd hb
                clear hb
                go_wp2
                go_ret
                exact ⟨rfl, FIN.out⟩
      · have g3 : decide ((12 : Int) < (asks.length : Int)) = true := decide_eq_true (by omega)
        have g3b : decide (12 < asks.length) = true := decide_eq_true (by omega)
        clear hl hm hneg
        have S_0 := S.bx.c0; have S_1 := S.bx.c1; have S_2 := S.bx.c2
        go_wp2_with fail
        refine (N1.out _ _ _ _ _ _ _ S.sx S.sy sE).mono ?_
        rintro e w2 ⟨rfl, hx⟩
        clear S_0 S_1 S_2
        replace sE := sE.ext hx; replace S := S.ext hx; replace hb := ext_trans hb hx; clear hx
        have S_0 := S.bx.c0; have S_1 := S.bx.c1; have S_2 := S.bx.c2
        go_wp2_with fail
        refine (N2.out _ _ _ _ _ _ _ S.sx S.sy sE).mono ?_
        rintro e w3 ⟨rfl, hx⟩
        clear S_0 S_1 S_2
        replace sE := sE.ext hx; replace S := S.ext hx; replace hb := ext_trans hb hx; clear hx
        have S_0 := S.bx.c0; have S_1 := S.bx.c1; have S_2 := S.bx.c2
        go_wp2_with fail
        refine (N2.out _ _ _ _ _ _ _ S.sx S.sy sE).mono ?_
        rintro e w4 ⟨rfl, hx⟩
        clear S_0 S_1 S_2
        replace sE := sE.ext hx; replace S := S.ext hx; replace hb := ext_trans hb hx; clear hx
        have FIN := hd hb
        clear hb
        go_wp2
        go_ret
        exact ⟨rfl, FIN.out⟩
end Go.Proofs.Ytiaianjnelgpiaa
