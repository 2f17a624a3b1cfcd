/- The walk of laws.FnUseStatement. -/
import Derived.Test.YtkbbjkjdcdjnbaaWCm
import Derived.Test.YtkbbjkjdcdjnbaaDrCn
namespace Go.Proofs.Ytkbbjkjdcdjnbaa
open Go.RowKit
set_option maxRecDepth 100000 in
set_option maxHeartbeats 4000000 in
theorem lawUseStatement (A : Option Addr) (n c : Nat) (w : World) (h : SlB w A n c) :
    Calls Try.prog 5 #[.slice A n c] w fun e w' => e = .returned (.bool true) ∧ Below w.heap.size w w' := by
  have hmax := h.2.1
  have hcap := h.1
  unfold maxLen at hmax
  by_cases hn : 1048576 < n
  · go_enter Try.func5, Try.ntmps5
    go_wp2
    go_ret
    exact ⟨rfl, Below.refl _ _⟩
  · go_enter Try.func5, Try.ntmps5
    go_wp2_with fail
    refine (drawUseStatement_any A n c w h).mono ?_
    rintro e w1 ⟨r, P, p, xs, v, rfl, rr0, rr1, sP, l1, hb, -⟩
    clear h
    go_upto_region 4 with fail
    obtain ⟨X1, hX⟩ : ∃ W, W = w1.alloc (.cells #[.int .i64 r, .slice P xs.length p] 25) := ⟨_, rfl⟩
    rw [← hX]
    have S : Hc X1 w1.heap.size r P p xs := by rw [hX]; exact hc_new w1 sP
    have hx : Below w1.heap.size w1 X1 := by rw [hX]; exact ext_alloc (Below.refl _ _) _
    clear hX
    replace hb := ext_trans hb hx; clear hx
    clear sP
    cases ho : USE r xs v with
    | none =>
      have G1 : Hid (∀ W A c, SlI W A c xs → Calls Try.prog 14 #[.agg #[.int .i64 r, .slice A xs.length c], .int .i64 v] W (fun e w' => e = .returned (.tuple #[.agg #[.int .i64 0, .slice none 0 0], .bool false]) ∧ Below W.heap.size W w')) := hd (fun W A c s => by have := us_any r A c xs v W s; rw [ho] at this; exact this)
      have G2 : Hid (∀ W A c, SlI W A c xs → Calls Try.prog 15 #[.agg #[.int .i64 r, .slice A xs.length c], .int .i64 v] W (fun e w' => e = .returned (.tuple #[.agg #[.int .i64 0, .slice none 0 0], .bool false]) ∧ Below W.heap.size W w')) := hd (fun W A c s => by have := sus_any r A c xs v W s; rw [ho] at this; exact this)
      have S_0 := S.bx.c0; have S_1 := S.bx.c1
      go_wp2_with fail
      refine (G1.out _ _ _ S.sx).mono ?_
      rintro e w2 ⟨rfl, hx⟩
      clear S_0 S_1
      replace S := S.ext hx; replace hb := ext_trans hb hx; clear hx
      go_upto_region 5 with fail
      obtain ⟨X2, hX⟩ : ∃ W, W = w2.alloc (.cells #[.int .i64 0, .slice none 0 0] 25) := ⟨_, rfl⟩
      rw [← hX]
      have O : Hc X2 w2.heap.size 0 none 0 [] := by rw [hX]; exact hc_new w2 (slI_nil _)
      have hx : Below w2.heap.size w2 X2 := by rw [hX]; exact ext_alloc (Below.refl _ _) _
      clear hX
      replace S := S.ext hx; replace hb := ext_trans hb hx; clear hx
      have S_0 := S.bx.c0; have S_1 := S.bx.c1
      go_wp2_with fail
      refine (G2.out _ _ _ S.sx).mono ?_
      rintro e w3 ⟨rfl, hx⟩
      clear S_0 S_1
      replace S := S.ext hx; replace O := O.ext hx; replace hb := ext_trans hb hx; clear hx
      go_upto_region 6 with fail
      obtain ⟨X3, hX⟩ : ∃ W, W = w3.alloc (.cells #[.int .i64 0, .slice none 0 0] 25) := ⟨_, rfl⟩
      rw [← hX]
      have K : Hc X3 w3.heap.size 0 none 0 [] := by rw [hX]; exact hc_new w3 (slI_nil _)
      have hx : Below w3.heap.size w3 X3 := by rw [hX]; exact ext_alloc (Below.refl _ _) _
      clear hX
      replace S := S.ext hx; replace O := O.ext hx; replace hb := ext_trans hb hx; clear hx
      clear G1 G2
      have O_0 := O.bx.c0
      have O_1 := (show _ = some (Value.slice none 0 0) from O.bx.c1)
      have K_0 := K.bx.c0
      have K_1 := (show _ = some (Value.slice none 0 0) from K.bx.c1)
      go_wp2_with fail
      refine (equalC_same 0 _ _ [] _ _ _ O.sx K.sx).mono ?_
      rintro e w4 ⟨rfl, hx⟩
      clear O_0 O_1 K_0 K_1
      replace S := S.ext hx; replace O := O.ext hx; replace K := K.ext hx; replace hb := ext_trans hb hx; clear hx
      cases hv : VCa r xs with
      | false =>
        have V1 : Hid (∀ W A c, SlI W A c xs → Calls Try.prog 11 #[.agg #[.int .i64 r, .slice A xs.length c]] W (fun e w' => e = .returned (.bool false) ∧ Below W.heap.size W w')) := hd (fun W A c s => by have := vca_any r A c xs W s; rwa [hv] at this)
        clear hv ho
        have S_0 := S.bx.c0; have S_1 := S.bx.c1
        go_wp2_with fail
        refine (V1.out _ _ _ S.sx).mono ?_
        rintro e w5 ⟨rfl, hx⟩
        clear S_0 S_1
        replace S := S.ext hx; replace O := O.ext hx; replace K := K.ext hx; replace hb := ext_trans hb hx; clear hx
        have O_0 := O.bx.c0
        have O_1 := (show _ = some (Value.slice none 0 0) from O.bx.c1)
        have K_0 := K.bx.c0
        have K_1 := (show _ = some (Value.slice none 0 0) from K.bx.c1)
        go_wp2_with fail
        refine (equalC_same 0 _ _ [] _ _ _ O.sx K.sx).mono ?_
        rintro e w6 ⟨rfl, hx⟩
        clear O_0 O_1 K_0 K_1
        replace S := S.ext hx; replace O := O.ext hx; replace K := K.ext hx; replace hb := ext_trans hb hx; clear hx
        have FIN := hd hb
        clear hb
        go_wp2
        go_ret
        exact ⟨rfl, FIN.out⟩
      | true =>
        have V1 : Hid (∀ W A c, SlI W A c xs → Calls Try.prog 11 #[.agg #[.int .i64 r, .slice A xs.length c]] W (fun e w' => e = .returned (.bool true) ∧ Below W.heap.size W w')) := hd (fun W A c s => by have := vca_any r A c xs W s; rwa [hv] at this)
        have hvr : inB v 0 9 = false := by cases hq : inB v 0 9 with | false => rfl | true => (rw [USE_ok hv hq] at ho; cases ho)
        clear ho hv
        by_cases c0 : v < 0
        · have g0 : decide (v < 0) = true := decide_eq_true c0
          clear hvr c0
          have S_0 := S.bx.c0; have S_1 := S.bx.c1
          go_wp2_with fail
          refine (V1.out _ _ _ S.sx).mono ?_
          rintro e w5 ⟨rfl, hx⟩
          clear S_0 S_1
          replace S := S.ext hx; replace O := O.ext hx; replace K := K.ext hx; replace hb := ext_trans hb hx; clear hx
          have O_0 := O.bx.c0
          have O_1 := (show _ = some (Value.slice none 0 0) from O.bx.c1)
          have K_0 := K.bx.c0
          have K_1 := (show _ = some (Value.slice none 0 0) from K.bx.c1)
          go_wp2_with fail
          refine (equalC_same 0 _ _ [] _ _ _ O.sx K.sx).mono ?_
          rintro e w6 ⟨rfl, hx⟩
          clear O_0 O_1 K_0 K_1
          replace S := S.ext hx; replace O := O.ext hx; replace K := K.ext hx; replace hb := ext_trans hb hx; clear hx
          have FIN := hd hb
          clear hb
          go_wp2
          go_ret
          exact ⟨rfl, FIN.out⟩
        · have g0 : decide (v < 0) = false := decide_eq_false c0
          have g9 : decide ((9 : Int) < v) = true := decide_eq_true (Int.not_le.1 (fun h => by rw [inB_true (by omega) h] at hvr; cases hvr))
          clear hvr c0
          have S_0 := S.bx.c0; have S_1 := S.bx.c1
          go_wp2_with fail
          refine (V1.out _ _ _ S.sx).mono ?_
          rintro e w5 ⟨rfl, hx⟩
          clear S_0 S_1
          replace S := S.ext hx; replace O := O.ext hx; replace K := K.ext hx; replace hb := ext_trans hb hx; clear hx
          have O_0 := O.bx.c0
          have O_1 := (show _ = some (Value.slice none 0 0) from O.bx.c1)
          have K_0 := K.bx.c0
          have K_1 := (show _ = some (Value.slice none 0 0) from K.bx.c1)
          go_wp2_with fail
          refine (equalC_same 0 _ _ [] _ _ _ O.sx K.sx).mono ?_
          rintro e w6 ⟨rfl, hx⟩
          clear O_0 O_1 K_0 K_1
          replace S := S.ext hx; replace O := O.ext hx; replace K := K.ext hx; replace hb := ext_trans hb hx; clear hx
          have FIN := hd hb
          clear hb
          go_wp2
          go_ret
          exact ⟨rfl, FIN.out⟩
    | some zb =>
      obtain ⟨hv, hvr, rfl⟩ := USE_some ho
      obtain ⟨b, hbE⟩ : ∃ b, b = hasB xs v := ⟨_, rfl⟩
      obtain ⟨zs, hz⟩ : ∃ zs, zs = US r xs v := ⟨_, rfl⟩
      rw [← hbE, ← hz] at ho
      have HZ := hd hz
      have HB := hd hbE
      clear hz hbE
      have gb : (b != b) = false := by simp
      have gb2 : (b == b) = true := by simp
      have G1 : Hid (∀ W A c, SlI W A c xs → Calls Try.prog 14 #[.agg #[.int .i64 r, .slice A xs.length c], .int .i64 v] W (CaB zs r b W)) := hd (fun W A c s => by have := us_any r A c xs v W s; rw [ho] at this; exact this)
      have G2 : Hid (∀ W A c, SlI W A c xs → Calls Try.prog 15 #[.agg #[.int .i64 r, .slice A xs.length c], .int .i64 v] W (CaB zs r b W)) := hd (fun W A c s => by have := sus_any r A c xs v W s; rw [ho] at this; exact this)
      have S_0 := S.bx.c0; have S_1 := S.bx.c1
      go_wp2_with fail
      refine (G1.out _ _ _ S.sx).mono ?_
      rintro e w2 ⟨xA, xa, rfl, rwx, hx⟩
      clear S_0 S_1
      have slx := rwx.sl; clear rwx
      replace S := S.ext hx; replace hb := ext_trans hb hx; clear hx
      go_upto_region 5 with fail
      obtain ⟨X2, hX⟩ : ∃ W, W = w2.alloc (.cells #[.int .i64 r, .slice xA zs.length xa] 25) := ⟨_, rfl⟩
      rw [← hX]
      have O : Hc X2 w2.heap.size r xA xa zs := by rw [hX]; exact hc_new w2 slx
      have hx : Below w2.heap.size w2 X2 := by rw [hX]; exact ext_alloc (Below.refl _ _) _
      clear hX
      replace S := S.ext hx; replace hb := ext_trans hb hx; clear hx
      clear slx
      have S_0 := S.bx.c0; have S_1 := S.bx.c1
      go_wp2_with fail
      refine (G2.out _ _ _ S.sx).mono ?_
      rintro e w3 ⟨yA, ya, rfl, rwy, hx⟩
      clear S_0 S_1
      have sly := rwy.sl; clear rwy
      replace S := S.ext hx; replace O := O.ext hx; replace hb := ext_trans hb hx; clear hx
      go_upto_region 6 with fail
      obtain ⟨X3, hX⟩ : ∃ W, W = w3.alloc (.cells #[.int .i64 r, .slice yA zs.length ya] 25) := ⟨_, rfl⟩
      rw [← hX]
      have K : Hc X3 w3.heap.size r yA ya zs := by rw [hX]; exact hc_new w3 sly
      have hx : Below w3.heap.size w3 X3 := by rw [hX]; exact ext_alloc (Below.refl _ _) _
      clear hX
      replace S := S.ext hx; replace O := O.ext hx; replace hb := ext_trans hb hx; clear hx
      clear sly
      clear G1 G2 ho
      have O_0 := O.bx.c0
      have O_1 := O.bx.c1
      have K_0 := K.bx.c0
      have K_1 := K.bx.c1
      go_wp2_with fail
      refine (equalC_same r _ _ zs _ _ _ O.sx K.sx).mono ?_
      rintro e w4 ⟨rfl, hx⟩
      clear O_0 O_1 K_0 K_1
      replace S := S.ext hx; replace O := O.ext hx; replace K := K.ext hx; replace hb := ext_trans hb hx; clear hx
      have V1 : Hid (∀ W A c, SlI W A c xs → Calls Try.prog 11 #[.agg #[.int .i64 r, .slice A xs.length c]] W (fun e w' => e = .returned (.bool true) ∧ Below W.heap.size W w')) := hd (fun W A c s => by have := vca_any r A c xs W s; rwa [hv] at this)
      have g0 : decide (v < 0) = false := decide_eq_false (by have := inB_iff.1 hvr; omega)
      have g9 : decide ((9 : Int) < v) = false := decide_eq_false (by have := inB_iff.1 hvr; omega)
      have hr0 := (validC_iff.1 hv).r0
      have hr6 := (validC_iff.1 hv).r1
      have S_0 := S.bx.c0; have S_1 := S.bx.c1
      go_wp2_with fail
      refine (V1.out _ _ _ S.sx).mono ?_
      rintro e w5 ⟨rfl, hx⟩
      clear S_0 S_1
      replace S := S.ext hx; replace O := O.ext hx; replace K := K.ext hx; replace hb := ext_trans hb hx; clear hx
      clear V1
      have hvz : VCa r zs = true := by rw [HZ.out]; exact VCa_US hv hvr
      have V3 : Hid (∀ W A c, SlI W A c zs → Calls Try.prog 11 #[.agg #[.int .i64 r, .slice A zs.length c]] W (fun e w' => e = .returned (.bool true) ∧ Below W.heap.size W w')) := hd (fun W A c s => by have := vca_any r A c zs W s; rwa [hvz] at this)
      have IS : Hid (∀ W A a, SlI W A a xs → Calls Try.prog 17 #[.slice A xs.length a, .int .i64 v] W (fun e w' => e = .returned (.bool b) ∧ w' = W)) := hd (fun W A a s => by have := lisIn_any A xs.length a xs v W s rfl; rwa [← HB.out] at this)
      by_cases h0 : r = 0
      · have gr : (r == 0) = true := beq_iff_eq.2 h0
        have hl0 : zs.length = 0 := by rw [HZ.out, US_zero v h0]; rfl
        have gn : ((zs.length : Int) == 0) = true := beq_iff_eq.2 (by omega)
        have gn2 : (zs.length == 0) = true := beq_iff_eq.2 hl0
        clear hl0 h0 hv hvr hvz
        have S_0 := S.bx.c0; have S_1 := S.bx.c1; have O_0 := O.bx.c0; have O_1 := O.bx.c1
        go_wp2_with fail
        refine (IS.out _ _ _ S.sx).mono ?_
        rintro e w6 ⟨rfl, rfl⟩
        clear S_0 S_1 O_0 O_1
        have S_0 := S.bx.c0; have S_1 := S.bx.c1; have O_0 := O.bx.c0; have O_1 := O.bx.c1
        go_wp2_with fail
        refine (V3.out _ _ _ O.sx).mono ?_
        rintro e w7 ⟨rfl, hx⟩
        clear S_0 S_1 O_0 O_1
        replace S := S.ext hx; replace O := O.ext hx; replace K := K.ext hx; replace hb := ext_trans hb hx; clear hx
        have FIN := hd hb
        clear hb
        go_wp2
        go_ret
        exact ⟨rfl, FIN.out⟩
      · have gr : (r == 0) = false := beq_eq_false_iff_ne.2 h0
        have gr2 : decide (0 < r) = true := decide_eq_true (by omega)
        obtain ⟨k, hk, hkv⟩ := US_end (xs := xs) v (show 0 < r by omega)
        rw [← HZ.out] at hk hkv
        have hmx := O.sx.max; have hcp := O.sx.cap
        unfold maxLen at hmx
        have hkl : k < zs.length := by omega
        have gn : ((zs.length : Int) == 0) = false := beq_eq_false_iff_ne.2 (by omega)
        have gn2 : (zs.length == 0) = false := beq_eq_false_iff_ne.2 (by omega)
        have gp : decide ((0 : Int) < (zs.length : Int)) = true := decide_eq_true (by omega)
        have gp2 : decide (0 < zs.length) = true := decide_eq_true (by omega)
        have hw : IntKind.i64.wrap ((zs.length : Int) - 1) = (k : Int) := by rw [IntKind.wrap_i64]; omega
        obtain ⟨ad, rfl, -, -⟩ := SlI.at O.sx hkl
        have a0 := SlI.atN O.sx hkl
        rw [hkv] at a0
        have gv : (v == v) = true := by simp
        clear h0 hv hvr hvz hk hkv
        have S_0 := S.bx.c0; have S_1 := S.bx.c1; have O_0 := O.bx.c0; have O_1 := O.bx.c1
        go_wp2_with fail
        refine (IS.out _ _ _ S.sx).mono ?_
        rintro e w6 ⟨rfl, rfl⟩
        clear S_0 S_1 O_0 O_1
        have S_0 := S.bx.c0; have S_1 := S.bx.c1; have O_0 := O.bx.c0; have O_1 := O.bx.c1
        go_wp2_with fail
        refine (V3.out _ _ _ O.sx).mono ?_
        rintro e w7 ⟨rfl, hx⟩
        clear S_0 S_1 O_0 O_1
        clear a0
        replace S := S.ext hx; replace O := O.ext hx; replace K := K.ext hx; replace hb := ext_trans hb hx; clear hx
        have FIN := hd hb
        clear hb
        go_wp2
        go_ret
        exact ⟨rfl, FIN.out⟩
end Go.Proofs.Ytkbbjkjdcdjnbaa
