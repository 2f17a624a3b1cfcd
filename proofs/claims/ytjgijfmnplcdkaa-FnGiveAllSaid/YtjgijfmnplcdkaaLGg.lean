/- The walk of laws.FnGiveAll. -/
import Derived.Deep.DeepCutAuto
import Derived.Test.YtjgijfmnplcdkaaWSv
import Derived.Test.YtjgijfmnplcdkaaWSn
import Derived.Test.YtjgijfmnplcdkaaWSc
import Derived.Test.YtjgijfmnplcdkaaWGa
import Derived.Test.YtjgijfmnplcdkaaWGs
import Derived.Test.YtjgijfmnplcdkaaDrN
import Derived.Test.YtjgijfmnplcdkaaPGg
namespace Go.Proofs.Ytjgijfmnplcdkaa
open Go.RowKit
/-- Where the law's loop stands: the share now and what is left. -/
structure GvS (w wr : World) (gN BN : Nat) (t : Int) (xs zs lf us : List Int) (A : Option Addr) (a : Nat) (B : Option Addr) (b : Nat) (F : Option Addr) (f : Nat) (O : Option Addr) (oc : Nat) : Prop where
  bx : Bx wr gN (.int .i64 t) (.slice A xs.length a) (.slice B zs.length b)
  sx : SlI wr A a xs
  sy : SlI wr B b zs
  fl : RwI wr BN F f lf
  so : SlI wr O oc us
  ra : ∀ j, rowOf A xs.length = some j → j ≠ gN
  rb : ∀ j, rowOf B zs.length = some j → j ≠ gN
  ro : ∀ j, rowOf O us.length = some j → j ≠ gN
  lt : gN < BN
  bs : BN ≤ wr.heap.size
  w0 : w.heap.size ≤ gN
  be : Below w.heap.size w wr
section
variable {w wr w' : World} {gN BN a b f oc : Nat} {t : Int} {xs zs lf us : List Int} {A B F O : Option Addr}
theorem GvS.ext (h : GvS w wr gN BN t xs zs lf us A a B b F f O oc) (hx : Below wr.heap.size wr w') : GvS w w' gN BN t xs zs lf us A a B b F f O oc :=
  ⟨h.bx.ext hx, h.sx.ext hx, h.sy.ext hx, h.fl.ext hx, h.so.ext hx, h.ra, h.rb, h.ro, h.lt, Nat.le_trans h.bs hx.size, h.w0, ext_trans h.be hx⟩
theorem GvS.put (h : GvS w wr gN BN t xs zs lf us A a B b F f O oc) {P Q : Option Addr} {p q : Nat} {ys : List Int} (sP : SlI wr P p xs) (sQ : SlI wr Q q ys) (rP : ∀ j, rowOf P xs.length = some j → j ≠ gN) (rQ : ∀ j, rowOf Q ys.length = some j → j ≠ gN) :
    GvS w (((wr.setCell ⟨gN, 0, none⟩ (.int .i64 t)).setCell ⟨gN, 1, none⟩ (.slice P xs.length p)).setCell ⟨gN, 2, none⟩ (.slice Q ys.length q)) gN BN t xs ys lf us P p Q q F f O oc :=
  ⟨h.bx.put3, set3_keep sP rP, set3_keep sQ rQ, Rw.apart h.fl (set3_grown0 _ _ _ _ _) (fun j hj e => by injection e with e; have := (Rw.row h.fl j hj).1; have := h.lt; omega), set3_keep h.so h.ro, rP, rQ, h.ro, h.lt, Nat.le_trans h.bs (set3_grown0 _ _ _ _ _).size, h.w0, h.be.grown (set3_grown0 _ _ _ _ _) h.be.size (fun k e => by injection e with e; have := h.w0; omega)⟩
theorem GvS.left (h : GvS w wr gN BN t xs zs lf us A a B b F f O oc) (hx : Below wr.heap.size wr w') {F' : Option Addr} {f' : Nat} {lf' : List Int} (r : RwI w' wr.heap.size F' f' lf') : GvS w w' gN BN t xs zs lf' us A a B b F' f' O oc :=
  ⟨h.bx.ext hx, h.sx.ext hx, h.sy.ext hx, r.low h.bs, h.so.ext hx, h.ra, h.rb, h.ro, h.lt, Nat.le_trans h.bs hx.size, h.w0, ext_trans h.be hx⟩
end
set_option maxRecDepth 100000 in
set_option maxHeartbeats 4000000 in
theorem lawGiveAll (A : Option Addr) (n c : Nat) (w : World) (h : SlB w A n c) :
    Calls Try.prog 4 #[.slice A n c] w fun e w' => e = .returned (.bool true) ∧ Below w.heap.size w w' := by
  have hmax := h.2.1
  have hcap := h.1
  unfold maxLen at hmax
  by_cases hn : 1048576 < n
  · go_enter Try.func4, Try.ntmps4
    go_wp2
    go_ret
    exact ⟨rfl, Below.refl _ _⟩
  · go_enter Try.func4, Try.ntmps4
    go_wp2_with fail
    refine (drawGiveAll_any A n c w h).mono ?_
    rintro e w1 ⟨t, P, p, xs, Q, q, ys, E, f, asks, rfl, t0, t1, sP, sQ, l1, l2, sE, lE, hb, -, -, -⟩
    clear h
    go_upto_region 4 with fail
    obtain ⟨X1, hX⟩ : ∃ W, W = w1.alloc (.cells #[.int .i64 t, .slice P xs.length p, .slice Q ys.length q] 25) := ⟨_, rfl⟩
    rw [← hX]
    have S : Hs X1 w1.heap.size t P p xs Q q ys := by rw [hX]; exact hs_new w1 sP sQ
    have hx : Below w1.heap.size w1 X1 := by rw [hX]; exact ext_alloc (Below.refl _ _) _
    clear hX
    replace sE := sE.ext hx; replace hb := ext_trans hb hx; clear hx
    clear sP sQ
    obtain ⟨us, hus⟩ : ∃ us, us = GALL t xs ys asks := ⟨_, rfl⟩
    have HU := hd hus
    have G1 : Hid (∀ W A B C a b c, SlI W A a xs → SlI W B b ys → SlI W C c asks → Calls Try.prog 7 #[.agg #[.int .i64 t, .slice A xs.length a, .slice B ys.length b], .slice C asks.length c] W (NewI us W)) := hd (fun W A B C a b c s s' sa => by have := ga_any t A a xs B b ys C c asks W s s' sa; rwa [← hus] at this)
    have G2 : Hid (∀ W A B C a b c, SlI W A a xs → SlI W B b ys → SlI W C c asks → Calls Try.prog 9 #[.agg #[.int .i64 t, .slice A xs.length a, .slice B ys.length b], .slice C asks.length c] W (NewI us W)) := hd (fun W A B C a b c s s' sa => by have := sga_any t A a xs B b ys C c asks W s s' sa; rwa [← hus] at this)
    have EQ : Hid (∀ W A a B b, SlI W A a us → SlI W B b us → Calls Try.prog 8 #[.slice A us.length a, .slice B us.length b] W (fun e w' => e = .returned (.bool true) ∧ Below W.heap.size W w')) := hd (fun W A a B b s s' => by have := equalInts_any A B a b us us W s s'; rwa [sameI_self] at this)
    clear hus
    have S_0 := S.bx.c0; have S_1 := S.bx.c1; have S_2 := S.bx.c2
    go_wp2_with fail
    refine (G1.out _ _ _ _ _ _ _ S.sx S.sy sE).mono ?_
    rintro e w2 ⟨oA, oc, rfl, ro, hx⟩
    clear S_0 S_1 S_2
    have so := ro.sl; clear ro
    replace sE := sE.ext hx; replace S := S.ext hx; replace hb := ext_trans hb hx; clear hx
    have S_0 := S.bx.c0; have S_1 := S.bx.c1; have S_2 := S.bx.c2
    go_wp2_with fail
    refine (G2.out _ _ _ _ _ _ _ S.sx S.sy sE).mono ?_
    rintro e w3 ⟨kA, kc, rfl, rk, hx⟩
    clear S_0 S_1 S_2
    have sk := rk.sl; clear rk
    replace sE := sE.ext hx; replace S := S.ext hx; replace so := so.ext hx; replace hb := ext_trans hb hx; clear hx
    have S_0 := S.bx.c0; have S_1 := S.bx.c1; have S_2 := S.bx.c2
    go_wp2_with fail
    refine (EQ.out _ _ _ _ _ so sk).mono ?_
    rintro e w4 ⟨rfl, hx⟩
    clear S_0 S_1 S_2
    replace sE := sE.ext hx; replace S := S.ext hx; replace so := so.ext hx; replace sk := sk.ext hx; replace hb := ext_trans hb hx; clear hx
    cases hv : VSh t xs ys with
    | false =>
      have V1 : Hid (∀ W A B c d, SlI W A c xs → SlI W B d ys → Calls Try.prog 10 #[.agg #[.int .i64 t, .slice A xs.length c, .slice B ys.length d]] W (fun e w' => e = .returned (.bool false) ∧ Below W.heap.size W w')) := hd (fun W A B c d s s' => by have := vsh_any t A c xs B d ys W s s'; rwa [hv] at this)
      clear hv
      have S_0 := S.bx.c0; have S_1 := S.bx.c1; have S_2 := S.bx.c2
      go_wp2_with fail
      refine (V1.out _ _ _ _ _ S.sx S.sy).mono ?_
      rintro e w5 ⟨rfl, hx⟩
      clear S_0 S_1 S_2
      replace sE := sE.ext hx; replace S := S.ext hx; replace so := so.ext hx; replace sk := sk.ext hx; replace hb := ext_trans hb hx; clear hx
      have S_0 := S.bx.c0; have S_1 := S.bx.c1; have S_2 := S.bx.c2
      go_wp2_with fail
      refine (G2.out _ _ _ _ _ _ _ S.sx S.sy sE).mono ?_
      rintro e w6 ⟨qA, qc, rfl, rq, hx⟩
      clear S_0 S_1 S_2
      have sq := rq.sl; clear rq
      replace sE := sE.ext hx; replace S := S.ext hx; replace so := so.ext hx; replace sk := sk.ext hx; replace hb := ext_trans hb hx; clear hx
      have S_0 := S.bx.c0; have S_1 := S.bx.c1; have S_2 := S.bx.c2
      go_wp2_with fail
      refine (EQ.out _ _ _ _ _ so sq).mono ?_
      rintro e w7 ⟨rfl, hx⟩
      clear S_0 S_1 S_2
      replace sE := sE.ext hx; replace S := S.ext hx; replace so := so.ext hx; replace sk := sk.ext hx; replace sq := sq.ext hx; replace hb := ext_trans hb hx; clear hx
      have FIN := hd hb
      clear hb
      go_wp2
      go_ret
      exact ⟨rfl, FIN.out⟩
    | true =>
      have V1 : Hid (∀ W A B c d, SlI W A c xs → SlI W B d ys → Calls Try.prog 10 #[.agg #[.int .i64 t, .slice A xs.length c, .slice B ys.length d]] W (fun e w' => e = .returned (.bool true) ∧ Below W.heap.size W w')) := hd (fun W A B c d s s' => by have := vsh_any t A c xs B d ys W s s'; rwa [hv] at this)
      by_cases hl : asks.length ≤ 12
      · have g12 : decide ((12 : Int) < (asks.length : Int)) = false := decide_eq_false (by omega)
        have hul : us.length ≤ asks.length := by rw [HU.out]; exact GALL_len t xs ys asks
        have g12b : decide (12 < asks.length) = false := decide_eq_false (by omega)
        have hG := Giv.first (asks := asks) hv hl
        rw [← HU.out] at hG
        have HG := hd hG
        clear hG hv
        have S_0 := S.bx.c0; have S_1 := S.bx.c1; have S_2 := S.bx.c2
        go_wp2_with fail
        refine (V1.out _ _ _ _ _ S.sx S.sy).mono ?_
        rintro e w5 ⟨rfl, hx⟩
        clear S_0 S_1 S_2
        replace sE := sE.ext hx; replace S := S.ext hx; replace so := so.ext hx; replace sk := sk.ext hx; replace hb := ext_trans hb hx; clear hx
        have RP := hd (fun j (hj : rowOf P xs.length = some j) => Sl.row S.sx j hj)
        have RQ := hd (fun j (hj : rowOf Q ys.length = some j) => Sl.row S.sy j hj)
        have RO := hd (fun j (hj : rowOf oA us.length = some j) => Sl.row so j hj)
        have hw0 := hb.size
        clear V1 G1 G2 EQ
        have S_0 := S.bx.c0; have S_1 := S.bx.c1; have S_2 := S.bx.c2
        go_upto_region 8 with fail
        obtain ⟨X5, hX⟩ : ∃ W, W = w5.alloc (.cells #[.int .i64 t, .slice P xs.length p, .slice Q ys.length q] 25) := ⟨_, rfl⟩
        rw [← hX]
        have N : Hs X5 w5.heap.size t P p xs Q q ys := by rw [hX]; exact hs_new w5 S.sx S.sy
        have hx : Below w5.heap.size w5 X5 := by rw [hX]; exact ext_alloc (Below.refl _ _) _
        clear hX
        replace sE := sE.ext hx; replace S := S.ext hx; replace so := so.ext hx; replace sk := sk.ext hx; replace hb := ext_trans hb hx; clear hx
        clear S_0 S_1 S_2 S
        have hNl := N.bx.lt
        have ho := hd (own_made X5 3 1 [] 0 rfl (by decide))
        have hs := hd (Sl.alloc sE (.cells #[] 3))
        go_wp2_with (at_builtin; refine wpList_apps eltI _ _ ho.out hs.out (ci_one _) (by omega) (by omega) (by simp) (by rfl) (by rfl) (by rfl) (by rfl) ?_; intro v9 wh hown hg)
        have hx : Below X5.heap.size X5 wh := (ext_alloc (Below.refl _ _) (.cells #[] 3)).grown hg (by simp) (by intro k hk; simp [Value.ownBlock] at hk; omega)
        have e1 : (0 : Nat) + asks.length = asks.length := by omega
        rw [e1, List.nil_append] at hown
        obtain ⟨hA, hc, rfl, rh⟩ := rwI_of_own hown rfl rfl
        replace N := N.ext hx; replace so := so.ext hx; replace hb := ext_trans hb hx
        obtain ⟨gN, hgN⟩ : ∃ gN, gN = w5.heap.size := ⟨_, rfl⟩
        obtain ⟨BN, hBN⟩ : ∃ BN, BN = X5.heap.size := ⟨_, rfl⟩
        have S : GvS w wh gN BN t xs ys asks us P p Q q hA hc oA oc := ⟨by rw [hgN]; exact N.bx, N.sx, N.sy, by rw [hBN]; exact rh, so, fun j hj => by have := RP.out j hj; omega, fun j hj => by have := RQ.out j hj; omega, fun j hj => by have := RO.out j hj; omega, by omega, by rw [hBN]; exact hx.size, by omega, hb⟩
        rw [← hgN]
        clear e1 hown hg hx rh N so hb sE sk ho hs RP RQ RO hNl hgN hBN hw0 HU
        go_loopw [7, 8, 9, 10, 11] (fun l i _ _ _ wr => ∃ (k : Nat) (zs lf : List Int) (F : Option Addr) (f : Nat) (A : Option Addr) (a : Nat) (B : Option Addr) (b : Nat), k ≤ us.length ∧ l = .slice F lf.length f ∧ i = .int .i64 k ∧ Hid (Giv t xs (us.drop k) zs lf) ∧ GvS w wr gN BN t xs zs lf us A a B b F f oA oc) (fun _ i _ _ _ _ => us.length - (intOf i).toNat)
        case atStart => exact ⟨0, ys, asks, hA, hc, P, p, Q, q, Nat.zero_le _, rfl, rfl, hd HG.out, S⟩
        case round =>
          clear S HG
          obtain ⟨k, zs, lf, F, f, A, a, B, b, hk, rfl, rfl, HG, S⟩ := hrel
          by_cases hlt : k < us.length
          · have hG := HG.out
            rw [List.drop_eq_getElem_cons hlt] at hG
            obtain ⟨j, o, hNO, hj, hlo, huo, ho5, hAD, hG2⟩ := hG.step
            have hl12 := hG.len
            obtain ⟨zs2, hzs2⟩ : ∃ z, z = chg zs o 1 := ⟨_, rfl⟩
            obtain ⟨lf2, hlf2⟩ : ∃ z, z = lf.eraseIdx j := ⟨_, rfl⟩
            rw [← hzs2] at hAD hG2
            rw [← hlf2] at hG2
            have HG2 := hd hG2
            have HNO := hd hNO
            have HAD := hd hAD
            have HLF := hd hlf2
            have HLO := hd hlo
            have HUO := hd (show at0 us k = (o : Int) by rw [at0_of hlt, huo])
            clear hG hG2 hNO hAD hlf2 hlo huo hzs2 HG
            have c0 := S.bx.c0; have c1 := S.bx.c1; have c2 := S.bx.c2
            go_wp2_with fail
            refine (no_any t A a xs B b zs F f lf wr S.sx S.sy S.fl.sl).mono ?_
            rintro e wa ⟨rfl, hx⟩
            rw [HNO.out]
            replace S := S.ext hx
            clear hx c0 c1 c2
            go_upto_region 13 with fail
            obtain ⟨ad, rfl, -, -⟩ := SlI.at S.fl.sl hj
            obtain ⟨ad2, hao, -, -⟩ := SlI.at S.so hlt
            subst hao
            go_cut [75] (fun s wx => s = .bool false ∧ Below wa.heap.size wa wx)
            case first =>
              have a0 := SlI.atN S.fl.sl hj
              rw [HLO.out] at a0
              have a1 := SlI.atN S.so hlt
              rw [HUO.out] at a1
              have p1 : decide ((j : Int) < 0) = false := decide_eq_false (by omega)
              have p2 : decide ((lf.length : Int) ≤ (j : Int)) = false := decide_eq_false (by omega)
              have p3 : decide (lf.length ≤ j) = false := decide_eq_false (by omega)
              have p4 : ((o : Int) != (o : Int)) = false := by simp
              clear S
              go_quiet (fail)
              go_wp2_with fail
              go_meet
              exact ⟨rfl, below_drewN (Below.refl _ _) _⟩
            case rest =>
              obtain ⟨rfl, hx⟩ := hcut
              replace S := S.ext hx
              clear hx
              obtain ⟨wq, hwq⟩ : ∃ x, x = wc := ⟨_, rfl⟩
              subst hwq
              go_upto_region 15 with fail
              have GVB : Hid (∀ W, Below wq.heap.size wq W → Calls Try.prog 13 #[.agg #[.int .i64 t, .slice A xs.length a, .slice B zs.length b], .int .i64 (o : Int)] W (fun e w' => (∃ P1 p1 Q1 q1, e = .returned (.tuple #[.agg #[.int .i64 t, .slice P1 xs.length p1, .slice Q1 zs2.length q1], .bool true]) ∧ RwI w' W.heap.size P1 p1 xs ∧ RwI w' W.heap.size Q1 q1 zs2) ∧ Below W.heap.size W w' ∧ (∀ g i, g < W.heap.size → w'.cell? ⟨g, i, none⟩ = W.cell? ⟨g, i, none⟩) ∧ (∀ g i, g < W.heap.size → w'.frozen? ⟨g, i, none⟩ = W.frozen? ⟨g, i, none⟩))) := hd (fun W hB => by
                  have := gv_any t A a xs B b zs (o : Int) W (S.sx.ext hB) (S.sy.ext hB)
                  rw [HAD.out] at this
                  refine this.mono ?_
                  rintro e w' ⟨P1, p1, Q1, q1, rfl, r1, r2, -, hx⟩
                  exact ⟨⟨P1, p1, Q1, q1, rfl, r1, r2⟩, hx, fun g i hl => World.cell?_of_block (hx.block g hl), fun g i hl => World.frozen?_of_block (hx.block g hl)⟩)
              go_cut [10, 11] (fun s10 s11 wx => (∃ (g : Nat) (P1 : Option Addr) (p1 : Nat) (Q1 : Option Addr) (q1 : Nat), s10 = .pointer (some ⟨g, 0, none⟩) ∧ Hs wx g t P1 p1 xs Q1 q1 zs2 ∧ (∀ j, rowOf P1 xs.length = some j → j ≠ gN) ∧ (∀ j, rowOf Q1 zs2.length = some j → j ≠ gN)) ∧ s11 = .bool true ∧ GvS w wx gN BN t xs zs lf us A a B b (some ad) f (some ad2) oc)
              case first =>
                have c0 := S.bx.c0; have c1 := S.bx.c1; have c2 := S.bx.c2
                have a1 := SlI.atN S.so hlt
                rw [HUO.out] at a1
                have hal : ad2.block < wq.heap.size := by obtain ⟨_, e, hb9, -⟩ := SlI.at S.so hlt; injection e with e; subst e; exact hb9
                have hGl : gN < wq.heap.size := by have := S.lt; have := S.bs; omega
                have q11 : wq.heap.size ≠ gN := by omega
                have q12 : gN ≠ wq.heap.size := by omega
                have q13 : wq.heap.size ≠ ad2.block := by omega
                have q14 : ad2.block ≠ wq.heap.size := by omega
                have q15 : wq.heap.size ≠ (ad2.add k).block := by rw [blk_add]; omega
                have q16 : (ad2.add k).block ≠ wq.heap.size := by rw [blk_add]; omega
                have HS := hd S
                clear S
                go_region_held3 (fun W => W.cell? ⟨gN, 0, none⟩ = some (.int .i64 t) ∧ W.cell? ⟨gN, 1, none⟩ = some (.slice A xs.length a) ∧ W.cell? ⟨gN, 2, none⟩ = some (.slice B zs.length b) ∧ W.cell? (ad2.add k) = some (.int .i64 (o : Int))) (go_keep)
                  (first
                    | (go_at_call 13; (with_reducible refine (GVB.out _ (by first | exact ext_drew (Below.refl _ _) | exact ext_drew (ext_alloc (Below.refl _ _) _))).mono ?_); rintro e wA ⟨⟨P1, p1, Q1, q1z, rfl, r1, r2⟩, hB, hk1, hk2⟩; have RW := hd (And.intro r1 r2); have HB := hd hB; have hB0 : Below wq.heap.size wq wA := (ext_trans (by first | exact ext_drew (Below.refl _ _) | exact ext_drew (ext_alloc (Below.refl _ _) _)) hB); have SA := HS.out.ext hB0; have d0 := SA.bx.c0; have d1 := SA.bx.c1; have d2 := SA.bx.c2; have d3 := SlI.atN SA.so hlt; rw [HUO.out] at d3; have hsz := hB0.size; have r11 : wA.heap.size ≠ gN := (by omega); have r12 : gN ≠ wA.heap.size := (by omega); have r13 : wA.heap.size ≠ ad2.block := (by omega); have r14 : ad2.block ≠ wA.heap.size := (by omega); have r15 : wA.heap.size ≠ (ad2.add k).block := (by rw [blk_add]; omega); have r16 : (ad2.add k).block ≠ wA.heap.size := (by rw [blk_add]; omega); have HB0 := hd hB0; clear SA hB hB0 r1 r2)
                    | fail)
                all_goals (go_wp2_with fail; go_meet)
                all_goals (first
                  | (have h5 : (wq.alloc (.cells #[.int .i64 0, .slice none 0 0, .slice none 0 0] 25)).drew.heap.size = wq.heap.size + 1 := World.size_alloc _ _; have sP := set3_keep (a := .int .i64 t) (b := .slice P1 xs.length p1) (c := .slice Q1 zs2.length q1z) (r := wq.heap.size) RW.out.1.sl (fun j hj => by have := (Rw.row RW.out.1 j hj).1; omega); have sQ := set3_keep (a := .int .i64 t) (b := .slice P1 xs.length p1) (c := .slice Q1 zs2.length q1z) (r := wq.heap.size) RW.out.2.sl (fun j hj => by have := (Rw.row RW.out.2 j hj).1; omega); have bz := (Bx.ext (w := (wq.alloc (.cells #[.int .i64 0, .slice none 0 0, .slice none 0 0] 25)).drew) (show Bx _ _ _ _ _ from Bx.new wq _ _ _) HB.out).put3 (a := .int .i64 t) (b := .slice P1 xs.length p1) (c := .slice Q1 zs2.length q1z); exact ⟨⟨_, P1, p1, Q1, q1z, rfl, ⟨bz, sP, sQ⟩, fun j hj => by have := (Rw.row RW.out.1 j hj).1; omega, fun j hj => by have := (Rw.row RW.out.2 j hj).1; omega⟩, rfl, HS.out.ext (HB0.out.grown (set3_grown0 _ _ _ _ _) HB0.out.size (fun k e => by injection e with e; omega))⟩)
                  | exact ⟨⟨_, P1, p1, Q1, q1z, rfl, hs_new _ RW.out.1.sl RW.out.2.sl, fun j hj => by have := (Rw.row RW.out.1 j hj).1; have h5 : wq.drew.heap.size = wq.heap.size := rfl; omega, fun j hj => by have := (Rw.row RW.out.2 j hj).1; have h5 : wq.drew.heap.size = wq.heap.size := rfl; omega⟩, rfl, HS.out.ext (ext_alloc HB0.out _)⟩)
              case rest =>
                clear S GVB
                obtain ⟨⟨g, P1, p1, Q1, q1, rfl, N, rP, rQ⟩, rfl, S⟩ := hcut
                have z0 := N.bx.c0; have z1 := N.bx.c1; have z2 := N.bx.c2; have c0 := S.bx.c0; have c1 := S.bx.c1; have c2 := S.bx.c2; have y0 := S.bx.free 0; have y1 := S.bx.free 1; have y2 := S.bx.free 2
                have S2 := S.put N.sx N.sy rP rQ
                clear S N rP rQ
                go_upto_region 19 with fail
                obtain ⟨X9, hX9⟩ : ∃ X, X = (((wc.setCell ⟨gN, 0, none⟩ (.int .i64 t)).setCell ⟨gN, 1, none⟩ (.slice P1 xs.length p1)).setCell ⟨gN, 2, none⟩ (.slice Q1 zs2.length q1)) := ⟨_, rfl⟩
                rw [← hX9] at S2 ⊢
                clear hX9 z0 z1 z2 c0 c1 c2 y0 y1 y2
                have hlen2 : lf2.length + 1 = lf.length := by rw [HLF.out, List.length_eraseIdx_of_lt hj]; omega
                have HLE := hd hlen2
                clear hlen2
                have hrm := S2.fl.sl.max; have hrc := S2.fl.sl.cap
                unfold maxLen at hrm
                have hkl1 : (j : Int) + 1 ≤ (lf.length : Int) := by omega
                have hkc : (j : Int) ≤ (f : Int) := by omega
                have hkd : (j : Int) + 1 ≤ (f : Int) := by omega
                have hk0 : (0 : Int) ≤ (j : Int) + 1 := by omega
                have hkt : ((j : Int) + 1).toNat = j + 1 := by omega
                have hkw : IntKind.i64.wrap ((j : Int) + 1) = (j : Int) + 1 := by rw [IntKind.wrap_i64]; omega
                have H0 := hd (show ((X9.alloc (.cells #[] 3)).drew).ownsRow X9.heap.size 3 1 (.slice (some ⟨X9.heap.size, 0, none⟩) 0 0) 0 [] from own_made X9 _ 1 [] 0 rfl (by decide))
                have H1 := hd (show Sl ((X9.alloc (.cells #[] 3)).drew) 1 (some ad) j f (ci (lf.take j)) from by have := (S2.fl.sl.take (m := j) (by omega)); unfold SlI at this; rw [List.length_take, Nat.min_eq_left (by omega)] at this; exact Sl.alloc this _)
                have HC := hd (show [] ++ ci (lf.take j) ++ ci (lf.drop (j + 1)) = ci lf2 by rw [HLF.out, List.nil_append, ← ci_append, List.eraseIdx_eq_take_drop_succ])
                have HL := hd (show 0 + j + (lf.length - (j + 1)) = lf2.length by have := HLE.out; omega)
                obtain ⟨A5, hA5, hdr⟩ : ∃ A5, (if f = j + 1 then some ad else some (⟨ad.block, ad.off + (j + 1), none⟩ : Addr)) = A5 ∧ Sl X9 1 A5 (lf.length - (j + 1)) (f - (j + 1)) (ci (lf.drop (j + 1))) := by
                  have h1 := SlI.drop S2.fl.sl (m := j + 1) (by omega)
                  refine ⟨_, rfl, ?_⟩
                  unfold SlI at h1
                  rw [List.length_drop] at h1
                  have ea : ad.add ((j + 1) * 1) = ⟨ad.block, ad.off + (j + 1), none⟩ := by rw [Nat.mul_one]; unfold Addr.add; rw [if_neg (by omega)]
                  simpa only [Option.map_some, ea] using h1
                have H2 := hd hdr
                clear hdr
                have HS2 := hd S2
                clear S2
                go_region_held3 (fun _ => True) (trivial) (first
                  | ((refine step_apps eltI (.tmp 88) (.tmp 91) H0.out H1.out (ci_one _) (by omega) (by omega) (by simp) (by rfl) (by rfl) (by rfl) (by rfl) ?_; intro v1 w5 hown1 hg1; have hx5 : Below X9.heap.size X9 w5 := ((Below.refl _ _).alloc (Nat.le_refl _) _).drew.grown hg1 (by simp) (by intro k hk; simp [Value.ownBlock] at hk; omega)))
                  | ((refine step_apps eltI (.tmp 92) (.tmp 96) hown1 (Sl.ext H2.out hx5) (ci_one _) (by omega) (by omega) (by exact hx5.size) (by rfl) (by rfl) (by rfl) (by rfl) ?_; intro v2 w6 hown2 hg2; obtain ⟨A2, c2, rfl, r6⟩ := rwI_of_own hown2 HC.out HL.out; have hx6 : Below X9.heap.size X9 w6 := hx5.grown hg2 hx5.size (own_ge hown1)))
                  | fail)
                have S3 := HS2.out.left hx6 r6
                clear r6 hx6 hx5 hown1 hown2 hg1 hg2 H0 H1 H2
                go_wp2_with fail
                go_roundw
                case rel => exact ⟨k + 1, zs2, lf2, A2, c2, P1, p1, Q1, q1, by omega, rfl, by go_num, HG2, S3⟩
                case measure => simp [intOf]; omega
          · obtain rfl : k = us.length := by omega
            have HN := hd (show NO t xs zs lf = -1 from Giv.done (by have := HG.out; rwa [List.drop_length] at this))
            have c0 := S.bx.c0; have c1 := S.bx.c1; have c2 := S.bx.c2
            go_wp2_with fail
            refine (no_any t A a xs B b zs F f lf wr S.sx S.sy S.fl.sl).mono ?_
            rintro e wa ⟨rfl, hx⟩
            rw [HN.out]
            have FIN := hd (ext_trans S.be hx)
            clear S hx c0 c1 c2
            go_wp2
            go_ret
            exact ⟨rfl, FIN.out⟩
      · have g12 : decide ((12 : Int) < (asks.length : Int)) = true := decide_eq_true (by omega)
        have g12b : decide (12 < asks.length) = true := decide_eq_true (by omega)
        clear hl hv
        have S_0 := S.bx.c0; have S_1 := S.bx.c1; have S_2 := S.bx.c2
        go_wp2_with fail
        refine (V1.out _ _ _ _ _ S.sx S.sy).mono ?_
        rintro e w5 ⟨rfl, hx⟩
        clear S_0 S_1 S_2
        replace sE := sE.ext hx; replace S := S.ext hx; replace so := so.ext hx; replace sk := sk.ext hx; replace hb := ext_trans hb hx; clear hx
        have S_0 := S.bx.c0; have S_1 := S.bx.c1; have S_2 := S.bx.c2
        go_wp2_with fail
        refine (G2.out _ _ _ _ _ _ _ S.sx S.sy sE).mono ?_
        rintro e w6 ⟨qA, qc, rfl, rq, hx⟩
        clear S_0 S_1 S_2
        have sq := rq.sl; clear rq
        replace sE := sE.ext hx; replace S := S.ext hx; replace so := so.ext hx; replace sk := sk.ext hx; replace hb := ext_trans hb hx; clear hx
        have S_0 := S.bx.c0; have S_1 := S.bx.c1; have S_2 := S.bx.c2
        go_wp2_with fail
        refine (EQ.out _ _ _ _ _ so sq).mono ?_
        rintro e w7 ⟨rfl, hx⟩
        clear S_0 S_1 S_2
        replace sE := sE.ext hx; replace S := S.ext hx; replace so := so.ext hx; replace sk := sk.ext hx; replace sq := sq.ext hx; replace hb := ext_trans hb hx; clear hx
        have FIN := hd hb
        clear hb
        go_wp2
        go_ret
        exact ⟨rfl, FIN.out⟩
end Go.Proofs.Ytjgijfmnplcdkaa
