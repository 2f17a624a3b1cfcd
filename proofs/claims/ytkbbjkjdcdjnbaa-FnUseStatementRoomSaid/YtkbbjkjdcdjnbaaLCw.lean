/- The walk of laws.FnUseStatementRoom. -/
import Derived.Test.YtkbbjkjdcdjnbaaWCm
import Derived.Test.YtkbbjkjdcdjnbaaDrCn
namespace Go.Proofs.Ytkbbjkjdcdjnbaa
open Go.RowKit
set_option maxRecDepth 100000 in
set_option maxHeartbeats 4000000 in
theorem lawUseStatementRoom (A : Option Addr) (n c : Nat) (w : World) (h : SlB w A n c) :
    Calls Try.prog 6 #[.slice A n c] w fun e w' => e = .returned (.bool true) ∧ Below w.heap.size w w' := by
  have hmax := h.2.1
  have hcap := h.1
  unfold maxLen at hmax
  by_cases hn : 1048576 < n
  · go_enter Try.func6, Try.ntmps6
    go_wp2
    go_ret
    exact ⟨rfl, Below.refl _ _⟩
  · go_enter Try.func6, Try.ntmps6
    go_wp2_with fail
    refine (drawUseStatement_any A n c w h).mono ?_
    rintro e w1 ⟨r, P, p, xs, v, rfl, rr0, rr1, sP, l1, hb, -⟩
    clear h
    go_upto_region 4 with fail
    obtain ⟨X1, hX⟩ : ∃ W, W = w1.alloc (.cells #[.int .i64 r, .slice P xs.length p] 25) := ⟨_, rfl⟩
    rw [← hX]
    have S : Hc X1 w1.heap.size r P p xs := by rw [hX]; exact hc_new w1 sP
    have hx : Below w1.heap.size w1 X1 := by rw [hX]; exact ext_alloc (Below.refl _ _) _
    clear hX
    replace hb := ext_trans hb hx; clear hx
    clear sP
    cases ho : USE r xs v with
    | none =>
      have G1 : Hid (∀ W A c, SlI W A c xs → Calls Try.prog 14 #[.agg #[.int .i64 r, .slice A xs.length c], .int .i64 v] W (fun e w' => e = .returned (.tuple #[.agg #[.int .i64 0, .slice none 0 0], .bool false]) ∧ Below W.heap.size W w')) := hd (fun W A c s => by have := us_any r A c xs v W s; rw [ho] at this; exact this)
      have G2 : Hid (∀ W A c, SlI W A c xs → Calls Try.prog 15 #[.agg #[.int .i64 r, .slice A xs.length c], .int .i64 v] W (fun e w' => e = .returned (.tuple #[.agg #[.int .i64 0, .slice none 0 0], .bool false]) ∧ Below W.heap.size W w')) := hd (fun W A c s => by have := sus_any r A c xs v W s; rw [ho] at this; exact this)
      have S_0 := S.bx.c0; have S_1 := S.bx.c1
      go_wp2_with fail
      refine (G1.out _ _ _ S.sx).mono ?_
      rintro e w2 ⟨rfl, hx⟩
      clear S_0 S_1
      replace S := S.ext hx; replace hb := ext_trans hb hx; clear hx
      go_upto_region 5 with fail
      obtain ⟨X2, hX⟩ : ∃ W, W = w2.alloc (.cells #[.int .i64 0, .slice none 0 0] 25) := ⟨_, rfl⟩
      rw [← hX]
      have O : Hc X2 w2.heap.size 0 none 0 [] := by rw [hX]; exact hc_new w2 (slI_nil _)
      have hx : Below w2.heap.size w2 X2 := by rw [hX]; exact ext_alloc (Below.refl _ _) _
      clear hX
      replace S := S.ext hx; replace hb := ext_trans hb hx; clear hx
      have S_0 := S.bx.c0; have S_1 := S.bx.c1
      go_wp2_with fail
      refine (G2.out _ _ _ S.sx).mono ?_
      rintro e w3 ⟨rfl, hx⟩
      clear S_0 S_1
      replace S := S.ext hx; replace O := O.ext hx; replace hb := ext_trans hb hx; clear hx
      go_upto_region 6 with fail
      obtain ⟨X3, hX⟩ : ∃ W, W = w3.alloc (.cells #[.int .i64 0, .slice none 0 0] 25) := ⟨_, rfl⟩
      rw [← hX]
      have K : Hc X3 w3.heap.size 0 none 0 [] := by rw [hX]; exact hc_new w3 (slI_nil _)
      have hx : Below w3.heap.size w3 X3 := by rw [hX]; exact ext_alloc (Below.refl _ _) _
      clear hX
      replace S := S.ext hx; replace O := O.ext hx; replace hb := ext_trans hb hx; clear hx
      clear G1 G2
      have O_0 := O.bx.c0
      have O_1 := (show _ = some (Value.slice none 0 0) from O.bx.c1)
      have K_0 := K.bx.c0
      have K_1 := (show _ = some (Value.slice none 0 0) from K.bx.c1)
      go_wp2_with fail
      refine (equalC_same 0 _ _ [] _ _ _ O.sx K.sx).mono ?_
      rintro e w4 ⟨rfl, hx⟩
      clear O_0 O_1 K_0 K_1
      replace S := S.ext hx; replace O := O.ext hx; replace K := K.ext hx; replace hb := ext_trans hb hx; clear hx
      cases hv : VCa r xs with
      | false =>
        have V1 : Hid (∀ W A c, SlI W A c xs → Calls Try.prog 11 #[.agg #[.int .i64 r, .slice A xs.length c]] W (fun e w' => e = .returned (.bool false) ∧ Below W.heap.size W w')) := hd (fun W A c s => by have := vca_any r A c xs W s; rwa [hv] at this)
        clear hv ho
        have S_0 := S.bx.c0; have S_1 := S.bx.c1
        go_wp2_with fail
        refine (V1.out _ _ _ S.sx).mono ?_
        rintro e w5 ⟨rfl, hx⟩
        clear S_0 S_1
        replace S := S.ext hx; replace O := O.ext hx; replace K := K.ext hx; replace hb := ext_trans hb hx; clear hx
        have O_0 := O.bx.c0
        have O_1 := (show _ = some (Value.slice none 0 0) from O.bx.c1)
        have K_0 := K.bx.c0
        have K_1 := (show _ = some (Value.slice none 0 0) from K.bx.c1)
        go_wp2_with fail
        refine (equalC_same 0 _ _ [] _ _ _ O.sx K.sx).mono ?_
        rintro e w6 ⟨rfl, hx⟩
        clear O_0 O_1 K_0 K_1
        replace S := S.ext hx; replace O := O.ext hx; replace K := K.ext hx; replace hb := ext_trans hb hx; clear hx
        have FIN := hd hb
        clear hb
        go_wp2
        go_ret
        exact ⟨rfl, FIN.out⟩
      | true =>
        have V1 : Hid (∀ W A c, SlI W A c xs → Calls Try.prog 11 #[.agg #[.int .i64 r, .slice A xs.length c]] W (fun e w' => e = .returned (.bool true) ∧ Below W.heap.size W w')) := hd (fun W A c s => by have := vca_any r A c xs W s; rwa [hv] at this)
        have hvr : inB v 0 9 = false := by cases hq : inB v 0 9 with | false => rfl | true => (rw [USE_ok hv hq] at ho; cases ho)
        clear ho hv
        by_cases c0 : v < 0
        · have g0 : decide (v < 0) = true := decide_eq_true c0
          clear hvr c0
          have S_0 := S.bx.c0; have S_1 := S.bx.c1
          go_wp2_with fail
          refine (V1.out _ _ _ S.sx).mono ?_
          rintro e w5 ⟨rfl, hx⟩
          clear S_0 S_1
          replace S := S.ext hx; replace O := O.ext hx; replace K := K.ext hx; replace hb := ext_trans hb hx; clear hx
          have O_0 := O.bx.c0
          have O_1 := (show _ = some (Value.slice none 0 0) from O.bx.c1)
          have K_0 := K.bx.c0
          have K_1 := (show _ = some (Value.slice none 0 0) from K.bx.c1)
          go_wp2_with fail
          refine (equalC_same 0 _ _ [] _ _ _ O.sx K.sx).mono ?_
          rintro e w6 ⟨rfl, hx⟩
          clear O_0 O_1 K_0 K_1
          replace S := S.ext hx; replace O := O.ext hx; replace K := K.ext hx; replace hb := ext_trans hb hx; clear hx
          have FIN := hd hb
          clear hb
          go_wp2
          go_ret
          exact ⟨rfl, FIN.out⟩
        · have g0 : decide (v < 0) = false := decide_eq_false c0
          have g9 : decide ((9 : Int) < v) = true := decide_eq_true (Int.not_le.1 (fun h => by rw [inB_true (by omega) h] at hvr; cases hvr))
          clear hvr c0
          have S_0 := S.bx.c0; have S_1 := S.bx.c1
          go_wp2_with fail
          refine (V1.out _ _ _ S.sx).mono ?_
          rintro e w5 ⟨rfl, hx⟩
          clear S_0 S_1
          replace S := S.ext hx; replace O := O.ext hx; replace K := K.ext hx; replace hb := ext_trans hb hx; clear hx
          have O_0 := O.bx.c0
          have O_1 := (show _ = some (Value.slice none 0 0) from O.bx.c1)
          have K_0 := K.bx.c0
          have K_1 := (show _ = some (Value.slice none 0 0) from K.bx.c1)
          go_wp2_with fail
          refine (equalC_same 0 _ _ [] _ _ _ O.sx K.sx).mono ?_
          rintro e w6 ⟨rfl, hx⟩
          clear O_0 O_1 K_0 K_1
          replace S := S.ext hx; replace O := O.ext hx; replace K := K.ext hx; replace hb := ext_trans hb hx; clear hx
          have FIN := hd hb
          clear hb
          go_wp2
          go_ret
          exact ⟨rfl, FIN.out⟩
    | some zb =>
      obtain ⟨hv, hvr, rfl⟩ := USE_some ho
      obtain ⟨b, hbE⟩ : ∃ b, b = hasB xs v := ⟨_, rfl⟩
      obtain ⟨zs, hz⟩ : ∃ zs, zs = US r xs v := ⟨_, rfl⟩
      rw [← hbE, ← hz] at ho
      have HZ := hd hz
      have HB := hd hbE
      clear hz hbE
      have gb : (b != b) = false := by simp
      have gb2 : (b == b) = true := by simp
      have G1 : Hid (∀ W A c, SlI W A c xs → Calls Try.prog 14 #[.agg #[.int .i64 r, .slice A xs.length c], .int .i64 v] W (CaB zs r b W)) := hd (fun W A c s => by have := us_any r A c xs v W s; rw [ho] at this; exact this)
      have G2 : Hid (∀ W A c, SlI W A c xs → Calls Try.prog 15 #[.agg #[.int .i64 r, .slice A xs.length c], .int .i64 v] W (CaB zs r b W)) := hd (fun W A c s => by have := sus_any r A c xs v W s; rw [ho] at this; exact this)
      have S_0 := S.bx.c0; have S_1 := S.bx.c1
      go_wp2_with fail
      refine (G1.out _ _ _ S.sx).mono ?_
      rintro e w2 ⟨xA, xa, rfl, rwx, hx⟩
      clear S_0 S_1
      have slx := rwx.sl; clear rwx
      replace S := S.ext hx; replace hb := ext_trans hb hx; clear hx
      go_upto_region 5 with fail
      obtain ⟨X2, hX⟩ : ∃ W, W = w2.alloc (.cells #[.int .i64 r, .slice xA zs.length xa] 25) := ⟨_, rfl⟩
      rw [← hX]
      have O : Hc X2 w2.heap.size r xA xa zs := by rw [hX]; exact hc_new w2 slx
      have hx : Below w2.heap.size w2 X2 := by rw [hX]; exact ext_alloc (Below.refl _ _) _
      clear hX
      replace S := S.ext hx; replace hb := ext_trans hb hx; clear hx
      clear slx
      have S_0 := S.bx.c0; have S_1 := S.bx.c1
      go_wp2_with fail
      refine (G2.out _ _ _ S.sx).mono ?_
      rintro e w3 ⟨yA, ya, rfl, rwy, hx⟩
      clear S_0 S_1
      have sly := rwy.sl; clear rwy
      replace S := S.ext hx; replace O := O.ext hx; replace hb := ext_trans hb hx; clear hx
      go_upto_region 6 with fail
      obtain ⟨X3, hX⟩ : ∃ W, W = w3.alloc (.cells #[.int .i64 r, .slice yA zs.length ya] 25) := ⟨_, rfl⟩
      rw [← hX]
      have K : Hc X3 w3.heap.size r yA ya zs := by rw [hX]; exact hc_new w3 sly
      have hx : Below w3.heap.size w3 X3 := by rw [hX]; exact ext_alloc (Below.refl _ _) _
      clear hX
      replace S := S.ext hx; replace O := O.ext hx; replace hb := ext_trans hb hx; clear hx
      clear sly
      clear G1 G2 ho
      have O_0 := O.bx.c0
      have O_1 := O.bx.c1
      have K_0 := K.bx.c0
      have K_1 := K.bx.c1
      go_wp2_with fail
      refine (equalC_same r _ _ zs _ _ _ O.sx K.sx).mono ?_
      rintro e w4 ⟨rfl, hx⟩
      clear O_0 O_1 K_0 K_1
      replace S := S.ext hx; replace O := O.ext hx; replace K := K.ext hx; replace hb := ext_trans hb hx; clear hx
      by_cases h6 : r = 6
      · have g6 : (r == 6) = true := beq_iff_eq.2 h6
        clear h6
        have V1 : Hid (∀ W A c, SlI W A c xs → Calls Try.prog 11 #[.agg #[.int .i64 r, .slice A xs.length c]] W (fun e w' => e = .returned (.bool true) ∧ Below W.heap.size W w')) := hd (fun W A c s => by have := vca_any r A c xs W s; rwa [hv] at this)
        have g0 : decide (v < 0) = false := decide_eq_false (by have := inB_iff.1 hvr; omega)
        have g9 : decide ((9 : Int) < v) = false := decide_eq_false (by have := inB_iff.1 hvr; omega)
        have hr0 := (validC_iff.1 hv).r0
        have hr6 := (validC_iff.1 hv).r1
        have S_0 := S.bx.c0; have S_1 := S.bx.c1
        go_wp2_with fail
        refine (V1.out _ _ _ S.sx).mono ?_
        rintro e w5 ⟨rfl, hx⟩
        clear S_0 S_1
        replace S := S.ext hx; replace O := O.ext hx; replace K := K.ext hx; replace hb := ext_trans hb hx; clear hx
        clear V1
        have S_0 := S.bx.c0; have S_1 := S.bx.c1
        have O_0 := O.bx.c0
        have O_1 := O.bx.c1
        have K_0 := K.bx.c0
        have K_1 := K.bx.c1
        go_wp2_with fail
        refine (equalC_same r _ _ zs _ _ _ O.sx K.sx).mono ?_
        rintro e w6 ⟨rfl, hx⟩
        clear O_0 O_1 K_0 K_1
        replace S := S.ext hx; replace O := O.ext hx; replace K := K.ext hx; replace hb := ext_trans hb hx; clear hx
        have FIN := hd hb
        clear hb
        go_wp2
        go_ret
        exact ⟨rfl, FIN.out⟩
      · have g6 : (r == 6) = false := beq_eq_false_iff_ne.2 h6
        have V1 : Hid (∀ W A c, SlI W A c xs → Calls Try.prog 11 #[.agg #[.int .i64 r, .slice A xs.length c]] W (fun e w' => e = .returned (.bool true) ∧ Below W.heap.size W w')) := hd (fun W A c s => by have := vca_any r A c xs W s; rwa [hv] at this)
        have g0 : decide (v < 0) = false := decide_eq_false (by have := inB_iff.1 hvr; omega)
        have g9 : decide ((9 : Int) < v) = false := decide_eq_false (by have := inB_iff.1 hvr; omega)
        have hr0 := (validC_iff.1 hv).r0
        have hr6 := (validC_iff.1 hv).r1
        have S_0 := S.bx.c0; have S_1 := S.bx.c1
        go_wp2_with fail
        refine (V1.out _ _ _ S.sx).mono ?_
        rintro e w5 ⟨rfl, hx⟩
        clear S_0 S_1
        replace S := S.ext hx; replace O := O.ext hx; replace K := K.ext hx; replace hb := ext_trans hb hx; clear hx
        clear V1
        have hz6 : zs.length ≤ 6 := by rw [HZ.out]; exact US_len (validC_iff.1 hv) v
        have hvm := VCa_more hv h6
        obtain ⟨ms, hms⟩ : ∃ ms, ms = US (r + 1) xs v := ⟨_, rfl⟩
        have hom : USE (r + 1) xs v = some (ms, b) := by rw [USE_ok hvm hvr, hms, HB.out]
        have G3 : Hid (∀ W A c, SlI W A c xs → Calls Try.prog 14 #[.agg #[.int .i64 (r + 1), .slice A xs.length c], .int .i64 v] W (CaB ms (r + 1) b W)) := hd (fun W A c s => by have := us_any (r + 1) A c xs v W s; rw [hom] at this; exact this)
        have hin : ∀ k, k < zs.length → hasB ms (at0 zs k) = true := fun k hk => by rw [HZ.out] at hk ⊢; rw [hms]; exact US_in hr0 hk
        have hlm : ms.length ≤ zs.length + 1 := by rw [hms, HZ.out]; exact US_more v hr0
        have IS : Hid (∀ k, k < zs.length → ∀ W A a, SlI W A a ms → Calls Try.prog 17 #[.slice A ms.length a, .int .i64 (at0 zs k)] W (fun e w' => e = .returned (.bool true) ∧ w' = W)) := hd (fun k hk W A a s => by have := lisIn_any A ms.length a ms (at0 zs k) W s rfl; rwa [hin k hk] at this)
        have hwr : IntKind.i64.wrap (r + 1) = r + 1 := by rw [IntKind.wrap_i64]; omega
        have HLM := hd hlm
        clear h6 hv hvr hvm hms hom hin hlm
        have S_0 := S.bx.c0; have S_1 := S.bx.c1
        go_wp2_with fail
        refine (G3.out _ _ _ S.sx).mono ?_
        rintro e w6 ⟨zA, za, rfl, rwz, hx⟩
        clear S_0 S_1
        have slz := rwz.sl; clear rwz
        replace S := S.ext hx; replace O := O.ext hx; replace K := K.ext hx; replace hb := ext_trans hb hx; clear hx
        go_upto_region 9 with fail
        obtain ⟨X6, hX⟩ : ∃ W, W = w6.alloc (.cells #[.int .i64 (r + 1), .slice zA ms.length za] 25) := ⟨_, rfl⟩
        rw [← hX]
        have M : Hc X6 w6.heap.size (r + 1) zA za ms := by rw [hX]; exact hc_new w6 slz
        have hx : Below w6.heap.size w6 X6 := by rw [hX]; exact ext_alloc (Below.refl _ _) _
        clear hX
        replace S := S.ext hx; replace O := O.ext hx; replace K := K.ext hx; replace hb := ext_trans hb hx; clear hx
        clear slz
        clear G3
        have hmx := O.sx.max; have hcp := O.sx.cap
        unfold maxLen at hmx
        obtain ⟨GO, hGO⟩ : ∃ g, g = w2.heap.size := ⟨_, rfl⟩
        obtain ⟨GM, hGM⟩ : ∃ g, g = w6.heap.size := ⟨_, rfl⟩
        rw [← hGO] at O ⊢
        rw [← hGM] at M ⊢
        clear hGO hGM S K
        go_wp2_with fail
        go_loopw [11] (fun i wr => ∃ k : Nat, k ≤ zs.length ∧ i = .int .i64 k ∧ Hc wr GO r xA xa zs ∧ Hc wr GM (r + 1) zA za ms ∧ Below w.heap.size w wr) (fun i _ => zs.length - (intOf i).toNat)
        case atStart => exact ⟨0, by omega, rfl, O, M, hb⟩
        case round =>
          clear O M hb
          obtain ⟨k, hk, rfl, O, M, hb⟩ := hrel
          by_cases hlt : k < zs.length
          · obtain ⟨ad, rfl, -, -⟩ := SlI.at O.sx hlt
            have a0 := SlI.atN O.sx hlt
            have O_0 := O.bx.c0; have O_1 := O.bx.c1; have M_0 := M.bx.c0; have M_1 := M.bx.c1
            have sM := M.sx
            have HS := hd (And.intro O (And.intro M hb))
            clear O M hb
            go_wp2_with fail
            go_quiet ((go_at_call 17; exact Calls.quiet_of_same (IS.out k hlt _ _ _ sM)))
            go_wp2
            go_roundw
            case rel => exact ⟨k + 1, by omega, by go_num, HS.out.1.ext (below_drewN (Below.refl _ _) _), HS.out.2.1.ext (below_drewN (Below.refl _ _) _), below_drewN HS.out.2.2 _⟩
            case measure => simp [intOf]; omega
          · obtain rfl : k = zs.length := by omega
            have hw1 : IntKind.i64.wrap ((zs.length : Int) + 1) = (zs.length : Int) + 1 := by rw [IntKind.wrap_i64]; omega
            have gl : decide ((ms.length : Int) ≤ (zs.length : Int) + 1) = true := decide_eq_true (by have := HLM.out; omega)
            have gl2 : decide (ms.length ≤ zs.length + 1) = true := decide_eq_true HLM.out
            have O_0 := O.bx.c0; have O_1 := O.bx.c1; have M_0 := M.bx.c0; have M_1 := M.bx.c1
            have FIN := hd hb
            clear hb
            go_wp2
            go_ret
            exact ⟨rfl, FIN.out⟩
end Go.Proofs.Ytkbbjkjdcdjnbaa
