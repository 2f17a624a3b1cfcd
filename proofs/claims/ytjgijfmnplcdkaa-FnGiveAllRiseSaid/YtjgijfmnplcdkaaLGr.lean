/- The walk of laws.FnGiveAllRise. -/
import Derived.Test.YtjgijfmnplcdkaaWSv
import Derived.Test.YtjgijfmnplcdkaaWSn
import Derived.Test.YtjgijfmnplcdkaaWGa
import Derived.Test.YtjgijfmnplcdkaaWGs
import Derived.Test.YtjgijfmnplcdkaaDrN
import Derived.Test.YtjgijfmnplcdkaaPGr
namespace Go.Proofs.Ytjgijfmnplcdkaa
open Go.RowKit
set_option maxRecDepth 100000 in
set_option maxHeartbeats 4000000 in
theorem lawGiveAllRise (A : Option Addr) (n c : Nat) (w : World) (h : SlB w A n c) :
    Calls Try.prog 5 #[.slice A n c] w fun e w' => e = .returned (.bool true) ∧ Below w.heap.size w w' := by
  have hmax := h.2.1
  have hcap := h.1
  unfold maxLen at hmax
  by_cases hn : 1048576 < n
  · go_enter Try.func5, Try.ntmps5
    go_wp2
    go_ret
    exact ⟨rfl, Below.refl _ _⟩
  · go_enter Try.func5, Try.ntmps5
    go_wp2_with fail
    refine (drawGiveAll_any A n c w h).mono ?_
    rintro e w1 ⟨t, P, p, xs, Q, q, ys, E, f, asks, rfl, t0, t1, sP, sQ, l1, l2, sE, lE, hb, -, -, -⟩
    clear h
    go_upto_region 4 with fail
    obtain ⟨X1, hX⟩ : ∃ W, W = w1.alloc (.cells #[.int .i64 t, .slice P xs.length p, .slice Q ys.length q] 25) := ⟨_, rfl⟩
    rw [← hX]
    have S : Hs X1 w1.heap.size t P p xs Q q ys := by rw [hX]; exact hs_new w1 sP sQ
    have hx : Below w1.heap.size w1 X1 := by rw [hX]; exact ext_alloc (Below.refl _ _) _
    clear hX
    replace sE := sE.ext hx; replace hb := ext_trans hb hx; clear hx
    clear sP sQ
    obtain ⟨us, hus⟩ : ∃ us, us = GALL t xs ys asks := ⟨_, rfl⟩
    have HU := hd hus
    have G1 : Hid (∀ W A B C a b c, SlI W A a xs → SlI W B b ys → SlI W C c asks → Calls Try.prog 7 #[.agg #[.int .i64 t, .slice A xs.length a, .slice B ys.length b], .slice C asks.length c] W (NewI us W)) := hd (fun W A B C a b c s s' sa => by have := ga_any t A a xs B b ys C c asks W s s' sa; rwa [← hus] at this)
    have G2 : Hid (∀ W A B C a b c, SlI W A a xs → SlI W B b ys → SlI W C c asks → Calls Try.prog 9 #[.agg #[.int .i64 t, .slice A xs.length a, .slice B ys.length b], .slice C asks.length c] W (NewI us W)) := hd (fun W A B C a b c s s' sa => by have := sga_any t A a xs B b ys C c asks W s s' sa; rwa [← hus] at this)
    have EQ : Hid (∀ W A a B b, SlI W A a us → SlI W B b us → Calls Try.prog 8 #[.slice A us.length a, .slice B us.length b] W (fun e w' => e = .returned (.bool true) ∧ Below W.heap.size W w')) := hd (fun W A a B b s s' => by have := equalInts_any A B a b us us W s s'; rwa [sameI_self] at this)
    clear hus
    have S_0 := S.bx.c0; have S_1 := S.bx.c1; have S_2 := S.bx.c2
    go_wp2_with fail
    refine (G1.out _ _ _ _ _ _ _ S.sx S.sy sE).mono ?_
    rintro e w2 ⟨oA, oc, rfl, ro, hx⟩
    clear S_0 S_1 S_2
    have so := ro.sl; clear ro
    replace sE := sE.ext hx; replace S := S.ext hx; replace hb := ext_trans hb hx; clear hx
    have S_0 := S.bx.c0; have S_1 := S.bx.c1; have S_2 := S.bx.c2
    go_wp2_with fail
    refine (G2.out _ _ _ _ _ _ _ S.sx S.sy sE).mono ?_
    rintro e w3 ⟨kA, kc, rfl, rk, hx⟩
    clear S_0 S_1 S_2
    have sk := rk.sl; clear rk
    replace sE := sE.ext hx; replace S := S.ext hx; replace so := so.ext hx; replace hb := ext_trans hb hx; clear hx
    have S_0 := S.bx.c0; have S_1 := S.bx.c1; have S_2 := S.bx.c2
    go_wp2_with fail
    refine (EQ.out _ _ _ _ _ so sk).mono ?_
    rintro e w4 ⟨rfl, hx⟩
    clear S_0 S_1 S_2
    replace sE := sE.ext hx; replace S := S.ext hx; replace so := so.ext hx; replace sk := sk.ext hx; replace hb := ext_trans hb hx; clear hx
    cases hv : VSh t xs ys with
    | false =>
      have V1 : Hid (∀ W A B c d, SlI W A c xs → SlI W B d ys → Calls Try.prog 10 #[.agg #[.int .i64 t, .slice A xs.length c, .slice B ys.length d]] W (fun e w' => e = .returned (.bool false) ∧ Below W.heap.size W w')) := hd (fun W A B c d s s' => by have := vsh_any t A c xs B d ys W s s'; rwa [hv] at this)
      clear hv
      have S_0 := S.bx.c0; have S_1 := S.bx.c1; have S_2 := S.bx.c2
      go_wp2_with fail
      refine (V1.out _ _ _ _ _ S.sx S.sy).mono ?_
      rintro e w5 ⟨rfl, hx⟩
      clear S_0 S_1 S_2
      replace sE := sE.ext hx; replace S := S.ext hx; replace so := so.ext hx; replace sk := sk.ext hx; replace hb := ext_trans hb hx; clear hx
      have S_0 := S.bx.c0; have S_1 := S.bx.c1; have S_2 := S.bx.c2
      go_wp2_with fail
      refine (G2.out _ _ _ _ _ _ _ S.sx S.sy sE).mono ?_
      rintro e w6 ⟨qA, qc, rfl, rq, hx⟩
      clear S_0 S_1 S_2
      have sq := rq.sl; clear rq
      replace sE := sE.ext hx; replace S := S.ext hx; replace so := so.ext hx; replace sk := sk.ext hx; replace hb := ext_trans hb hx; clear hx
      have S_0 := S.bx.c0; have S_1 := S.bx.c1; have S_2 := S.bx.c2
      go_wp2_with fail
      refine (EQ.out _ _ _ _ _ so sq).mono ?_
      rintro e w7 ⟨rfl, hx⟩
      clear S_0 S_1 S_2
      replace sE := sE.ext hx; replace S := S.ext hx; replace so := so.ext hx; replace sk := sk.ext hx; replace sq := sq.ext hx; replace hb := ext_trans hb hx; clear hx
      have FIN := hd hb
      clear hb
      go_wp2
      go_ret
      exact ⟨rfl, FIN.out⟩
    | true =>
      have V1 : Hid (∀ W A B c d, SlI W A c xs → SlI W B d ys → Calls Try.prog 10 #[.agg #[.int .i64 t, .slice A xs.length c, .slice B ys.length d]] W (fun e w' => e = .returned (.bool true) ∧ Below W.heap.size W w')) := hd (fun W A B c d s s' => by have := vsh_any t A c xs B d ys W s s'; rwa [hv] at this)
      have hy5 : 5 ≤ ys.length := by have := (valid_iff.1 hv).ly; omega
      obtain ⟨n1, lf1, HR⟩ := Ris.first (asks := asks) hv
      rw [← HU.out] at HR
      have HR := hd HR
      have hul : us.length ≤ asks.length := by rw [HU.out]; exact GALL_len t xs ys asks
      have gl : decide ((us.length : Int) ≤ (asks.length : Int)) = true := decide_eq_true (by omega)
      have gl2 : decide (us.length ≤ asks.length) = true := decide_eq_true hul
      clear hv
      have S_0 := S.bx.c0; have S_1 := S.bx.c1; have S_2 := S.bx.c2
      go_wp2_with fail
      refine (V1.out _ _ _ _ _ S.sx S.sy).mono ?_
      rintro e w5 ⟨rfl, hx⟩
      clear S_0 S_1 S_2
      replace sE := sE.ext hx; replace S := S.ext hx; replace so := so.ext hx; replace sk := sk.ext hx; replace hb := ext_trans hb hx; clear hx
      clear V1 G1 G2 EQ
      have hrow : Hid (∀ j, rowOf oA us.length = some j → j < w5.heap.size) := hd (fun j hj => Sl.row so j hj)
      have ho := hd (own_made w5 3 1 [] 0 rfl (by decide))
      have hs := hd (Sl.alloc S.sy (.cells #[] 3))
      have T := S.ext (ext_alloc (Below.refl _ _) (.cells #[] 3))
      have S_0 := S.bx.c0; have S_1 := S.bx.c1; have S_2 := S.bx.c2; have T_0 := T.bx.c0; have T_1 := T.bx.c1; have T_2 := T.bx.c2
      clear T
      go_wp2_with (at_builtin; refine wpList_apps eltI _ _ ho.out hs.out (ci_one _) (by omega) (by omega) (by simp) (by rfl) (by rfl) (by rfl) (by rfl) ?_; intro v9 wh hown hg)
      have hx : Below w5.heap.size w5 wh := (ext_alloc (Below.refl _ _) (.cells #[] 3)).grown hg (by simp) (by intro k hk; simp [Value.ownBlock] at hk; omega)
      have e1 : (0 : Nat) + ys.length = ys.length := by omega
      rw [e1, List.nil_append] at hown
      obtain ⟨hA, hc, rfl, rh⟩ := rwI_of_own hown rfl rfl
      obtain ⟨g, rfl, hgB, -, -, -, -⟩ := rh.putI (i := 0) (by omega)
      have hBw := hb.size
      replace so := so.ext hx; replace hb := ext_trans hb hx
      clear e1 hown hg hx S sE sk ho hs
      clear S_0 S_1 S_2 T_0 T_1 T_2
      go_loopw [7, 8] (fun l i wr => ∃ (k n : Nat) (zs lf : List Int) (m : Int), k ≤ us.length ∧ i = .int .i64 k ∧ l = .int .i64 m ∧ Hid (Ris t xs (us.drop k) zs lf n m) ∧ RwI wr w5.heap.size (some ⟨g, 0, none⟩) hc zs ∧ SlI wr oA oc us ∧ Below w.heap.size w wr) (fun _ i _ => us.length - (intOf i).toNat)
      case atStart => exact ⟨0, n1, ys, lf1, 0, Nat.zero_le _, rfl, rfl, hd HR.out, rh, so, hb⟩
      case round =>
        clear rh so hb HR
        obtain ⟨k, n2, zs, lf, m, hk, rfl, rfl, HRi, rh, so, hb⟩ := hrel
        by_cases hlt : k < us.length
        · have hR := HRi.out
          rw [List.drop_eq_getElem_cons hlt] at hR
          have hz5 : zs.length = 5 := (valid_iff.1 hR.v).ly
          have hV := valid_iff.1 hR.v
          obtain ⟨o, ho, ho5, hml, n3, lf3, hR2⟩ := hR.step
          have b1 := hV.mx o ho5
          have b2 := hV.my o ho5
          have hoz : o < zs.length := by omega
          have hoy : o < ys.length := by omega
          obtain ⟨ad, rfl, -, -⟩ := SlI.at so hlt
          have a0 := SlI.atN so hlt
          rw [at0_of hlt, ho] at a0
          obtain ⟨g2, hg2, -, -, e0, f0, hput⟩ := rh.putI hoz
          injection hg2 with hg2
          injection hg2 with hg2
          subst hg2
          obtain ⟨r2, hgr⟩ := hput (at0 zs o + 1)
          have so2 := Sl.apart so hgr (fun j hj e => by injection e with e; have := hrow.out j hj; omega)
          have hb2 := hb.grown hgr hb.size (fun j e => by injection e with e; omega)
          have H := hd (And.intro r2 (And.intro so2 hb2))
          have HR2 := hd hR2
          have q1 : decide ((o : Int) < 0) = false := decide_eq_false (by omega)
          have q2 : decide ((ys.length : Int) ≤ (o : Int)) = false := decide_eq_false (by omega)
          have q3 : decide (ys.length ≤ o) = false := decide_eq_false (by omega)
          have q4 : decide (at0 zs o < m) = false := decide_eq_false (by omega)
          have hw : IntKind.i64.wrap (at0 zs o + 1) = at0 zs o + 1 := by rw [IntKind.wrap_i64]; omega
          clear r2 hgr so2 hb2 hR2 hput hR hV hz5 ho hml rh so hb b1 b2
          go_wp2_with fail
          go_region
          go_wp2_with fail
          go_roundw
          case rel => exact ⟨k + 1, n3, chg zs o 1, lf3, at0 zs o, by omega, by go_num, rfl, HR2, H.out.1, H.out.2.1, ext_drew H.out.2.2⟩
          case measure => simp [intOf]; omega
        · obtain rfl : k = us.length := by omega
          have FIN := hd hb
          clear hb
          go_wp2
          go_ret
          exact ⟨rfl, FIN.out⟩
end Go.Proofs.Ytjgijfmnplcdkaa
