/- The walk of laws.FnUseStatementOrder. -/
import Derived.Test.YtkbbjkjdcdjnbaaWCm
import Derived.Test.YtkbbjkjdcdjnbaaDrCn
namespace Go.Proofs.Ytkbbjkjdcdjnbaa
open Go.RowKit
set_option maxRecDepth 100000 in
set_option maxHeartbeats 4000000 in
theorem lawUseStatementOrder (A : Option Addr) (n c : Nat) (w : World) (h : SlB w A n c) :
    Calls Try.prog 7 #[.slice A n c] w fun e w' => e = .returned (.bool true) ∧ Below w.heap.size w w' := by
  have hmax := h.2.1
  have hcap := h.1
  unfold maxLen at hmax
  by_cases hn : 1048576 < n
  · go_enter Try.func7, Try.ntmps7
    go_wp2
    go_ret
    exact ⟨rfl, Below.refl _ _⟩
  · go_enter Try.func7, Try.ntmps7
    go_wp2_with fail
    refine (drawUseStatement_any A n c w h).mono ?_
    rintro e w1 ⟨r, P, p, xs, v, rfl, rr0, rr1, sP, l1, hb, -⟩
    clear h
    go_upto_region 4 with fail
    obtain ⟨X1, hX⟩ : ∃ W, W = w1.alloc (.cells #[.int .i64 r, .slice P xs.length p] 25) := ⟨_, rfl⟩
    rw [← hX]
    have S : Hc X1 w1.heap.size r P p xs := by rw [hX]; exact hc_new w1 sP
    have hx : Below w1.heap.size w1 X1 := by rw [hX]; exact ext_alloc (Below.refl _ _) _
    clear hX
    replace hb := ext_trans hb hx; clear hx
    clear sP
    cases ho : USE r xs v with
    | none =>
      have G1 : Hid (∀ W A c, SlI W A c xs → Calls Try.prog 14 #[.agg #[.int .i64 r, .slice A xs.length c], .int .i64 v] W (fun e w' => e = .returned (.tuple #[.agg #[.int .i64 0, .slice none 0 0], .bool false]) ∧ Below W.heap.size W w')) := hd (fun W A c s => by have := us_any r A c xs v W s; rw [ho] at this; exact this)
      have G2 : Hid (∀ W A c, SlI W A c xs → Calls Try.prog 15 #[.agg #[.int .i64 r, .slice A xs.length c], .int .i64 v] W (fun e w' => e = .returned (.tuple #[.agg #[.int .i64 0, .slice none 0 0], .bool false]) ∧ Below W.heap.size W w')) := hd (fun W A c s => by have := sus_any r A c xs v W s; rw [ho] at this; exact this)
      have S_0 := S.bx.c0; have S_1 := S.bx.c1
      go_wp2_with fail
      refine (G1.out _ _ _ S.sx).mono ?_
      rintro e w2 ⟨rfl, hx⟩
      clear S_0 S_1
      replace S := S.ext hx; replace hb := ext_trans hb hx; clear hx
      go_upto_region 5 with fail
      obtain ⟨X2, hX⟩ : ∃ W, W = w2.alloc (.cells #[.int .i64 0, .slice none 0 0] 25) := ⟨_, rfl⟩
      rw [← hX]
      have O : Hc X2 w2.heap.size 0 none 0 [] := by rw [hX]; exact hc_new w2 (slI_nil _)
      have hx : Below w2.heap.size w2 X2 := by rw [hX]; exact ext_alloc (Below.refl _ _) _
      clear hX
      replace S := S.ext hx; replace hb := ext_trans hb hx; clear hx
      have S_0 := S.bx.c0; have S_1 := S.bx.c1
      go_wp2_with fail
      refine (G2.out _ _ _ S.sx).mono ?_
      rintro e w3 ⟨rfl, hx⟩
      clear S_0 S_1
      replace S := S.ext hx; replace O := O.ext hx; replace hb := ext_trans hb hx; clear hx
      go_upto_region 6 with fail
      obtain ⟨X3, hX⟩ : ∃ W, W = w3.alloc (.cells #[.int .i64 0, .slice none 0 0] 25) := ⟨_, rfl⟩
      rw [← hX]
      have K : Hc X3 w3.heap.size 0 none 0 [] := by rw [hX]; exact hc_new w3 (slI_nil _)
      have hx : Below w3.heap.size w3 X3 := by rw [hX]; exact ext_alloc (Below.refl _ _) _
      clear hX
      replace S := S.ext hx; replace O := O.ext hx; replace hb := ext_trans hb hx; clear hx
      clear G1 G2
      have O_0 := O.bx.c0
      have O_1 := (show _ = some (Value.slice none 0 0) from O.bx.c1)
      have K_0 := K.bx.c0
      have K_1 := (show _ = some (Value.slice none 0 0) from K.bx.c1)
      go_wp2_with fail
      refine (equalC_same 0 _ _ [] _ _ _ O.sx K.sx).mono ?_
      rintro e w4 ⟨rfl, hx⟩
      clear O_0 O_1 K_0 K_1
      replace S := S.ext hx; replace O := O.ext hx; replace K := K.ext hx; replace hb := ext_trans hb hx; clear hx
      cases hv : VCa r xs with
      | false =>
        have V1 : Hid (∀ W A c, SlI W A c xs → Calls Try.prog 11 #[.agg #[.int .i64 r, .slice A xs.length c]] W (fun e w' => e = .returned (.bool false) ∧ Below W.heap.size W w')) := hd (fun W A c s => by have := vca_any r A c xs W s; rwa [hv] at this)
        clear hv ho
        have S_0 := S.bx.c0; have S_1 := S.bx.c1
        go_wp2_with fail
        refine (V1.out _ _ _ S.sx).mono ?_
        rintro e w5 ⟨rfl, hx⟩
        clear S_0 S_1
        replace S := S.ext hx; replace O := O.ext hx; replace K := K.ext hx; replace hb := ext_trans hb hx; clear hx
        have O_0 := O.bx.c0
        have O_1 := (show _ = some (Value.slice none 0 0) from O.bx.c1)
        have K_0 := K.bx.c0
        have K_1 := (show _ = some (Value.slice none 0 0) from K.bx.c1)
        go_wp2_with fail
        refine (equalC_same 0 _ _ [] _ _ _ O.sx K.sx).mono ?_
        rintro e w6 ⟨rfl, hx⟩
        clear O_0 O_1 K_0 K_1
        replace S := S.ext hx; replace O := O.ext hx; replace K := K.ext hx; replace hb := ext_trans hb hx; clear hx
        have FIN := hd hb
        clear hb
        go_wp2
        go_ret
        exact ⟨rfl, FIN.out⟩
      | true =>
        have V1 : Hid (∀ W A c, SlI W A c xs → Calls Try.prog 11 #[.agg #[.int .i64 r, .slice A xs.length c]] W (fun e w' => e = .returned (.bool true) ∧ Below W.heap.size W w')) := hd (fun W A c s => by have := vca_any r A c xs W s; rwa [hv] at this)
        have hvr : inB v 0 9 = false := by cases hq : inB v 0 9 with | false => rfl | true => (rw [USE_ok hv hq] at ho; cases ho)
        clear ho hv
        by_cases c0 : v < 0
        · have g0 : decide (v < 0) = true := decide_eq_true c0
          clear hvr c0
          have S_0 := S.bx.c0; have S_1 := S.bx.c1
          go_wp2_with fail
          refine (V1.out _ _ _ S.sx).mono ?_
          rintro e w5 ⟨rfl, hx⟩
          clear S_0 S_1
          replace S := S.ext hx; replace O := O.ext hx; replace K := K.ext hx; replace hb := ext_trans hb hx; clear hx
          have O_0 := O.bx.c0
          have O_1 := (show _ = some (Value.slice none 0 0) from O.bx.c1)
          have K_0 := K.bx.c0
          have K_1 := (show _ = some (Value.slice none 0 0) from K.bx.c1)
          go_wp2_with fail
          refine (equalC_same 0 _ _ [] _ _ _ O.sx K.sx).mono ?_
          rintro e w6 ⟨rfl, hx⟩
          clear O_0 O_1 K_0 K_1
          replace S := S.ext hx; replace O := O.ext hx; replace K := K.ext hx; replace hb := ext_trans hb hx; clear hx
          have FIN := hd hb
          clear hb
          go_wp2
          go_ret
          exact ⟨rfl, FIN.out⟩
        · have g0 : decide (v < 0) = false := decide_eq_false c0
          have g9 : decide ((9 : Int) < v) = true := decide_eq_true (Int.not_le.1 (fun h => by rw [inB_true (by omega) h] at hvr; cases hvr))
          clear hvr c0
          have S_0 := S.bx.c0; have S_1 := S.bx.c1
          go_wp2_with fail
          refine (V1.out _ _ _ S.sx).mono ?_
          rintro e w5 ⟨rfl, hx⟩
          clear S_0 S_1
          replace S := S.ext hx; replace O := O.ext hx; replace K := K.ext hx; replace hb := ext_trans hb hx; clear hx
          have O_0 := O.bx.c0
          have O_1 := (show _ = some (Value.slice none 0 0) from O.bx.c1)
          have K_0 := K.bx.c0
          have K_1 := (show _ = some (Value.slice none 0 0) from K.bx.c1)
          go_wp2_with fail
          refine (equalC_same 0 _ _ [] _ _ _ O.sx K.sx).mono ?_
          rintro e w6 ⟨rfl, hx⟩
          clear O_0 O_1 K_0 K_1
          replace S := S.ext hx; replace O := O.ext hx; replace K := K.ext hx; replace hb := ext_trans hb hx; clear hx
          have FIN := hd hb
          clear hb
          go_wp2
          go_ret
          exact ⟨rfl, FIN.out⟩
    | some zb =>
      obtain ⟨hv, hvr, rfl⟩ := USE_some ho
      obtain ⟨b, hbE⟩ : ∃ b, b = hasB xs v := ⟨_, rfl⟩
      obtain ⟨zs, hz⟩ : ∃ zs, zs = US r xs v := ⟨_, rfl⟩
      rw [← hbE, ← hz] at ho
      have HZ := hd hz
      have HB := hd hbE
      clear hz hbE
      have gb : (b != b) = false := by simp
      have gb2 : (b == b) = true := by simp
      have G1 : Hid (∀ W A c, SlI W A c xs → Calls Try.prog 14 #[.agg #[.int .i64 r, .slice A xs.length c], .int .i64 v] W (CaB zs r b W)) := hd (fun W A c s => by have := us_any r A c xs v W s; rw [ho] at this; exact this)
      have G2 : Hid (∀ W A c, SlI W A c xs → Calls Try.prog 15 #[.agg #[.int .i64 r, .slice A xs.length c], .int .i64 v] W (CaB zs r b W)) := hd (fun W A c s => by have := sus_any r A c xs v W s; rw [ho] at this; exact this)
      have S_0 := S.bx.c0; have S_1 := S.bx.c1
      go_wp2_with fail
      refine (G1.out _ _ _ S.sx).mono ?_
      rintro e w2 ⟨xA, xa, rfl, rwx, hx⟩
      clear S_0 S_1
      have slx := rwx.sl; clear rwx
      replace S := S.ext hx; replace hb := ext_trans hb hx; clear hx
      go_upto_region 5 with fail
      obtain ⟨X2, hX⟩ : ∃ W, W = w2.alloc (.cells #[.int .i64 r, .slice xA zs.length xa] 25) := ⟨_, rfl⟩
      rw [← hX]
      have O : Hc X2 w2.heap.size r xA xa zs := by rw [hX]; exact hc_new w2 slx
      have hx : Below w2.heap.size w2 X2 := by rw [hX]; exact ext_alloc (Below.refl _ _) _
      clear hX
      replace S := S.ext hx; replace hb := ext_trans hb hx; clear hx
      clear slx
      have S_0 := S.bx.c0; have S_1 := S.bx.c1
      go_wp2_with fail
      refine (G2.out _ _ _ S.sx).mono ?_
      rintro e w3 ⟨yA, ya, rfl, rwy, hx⟩
      clear S_0 S_1
      have sly := rwy.sl; clear rwy
      replace S := S.ext hx; replace O := O.ext hx; replace hb := ext_trans hb hx; clear hx
      go_upto_region 6 with fail
      obtain ⟨X3, hX⟩ : ∃ W, W = w3.alloc (.cells #[.int .i64 r, .slice yA zs.length ya] 25) := ⟨_, rfl⟩
      rw [← hX]
      have K : Hc X3 w3.heap.size r yA ya zs := by rw [hX]; exact hc_new w3 sly
      have hx : Below w3.heap.size w3 X3 := by rw [hX]; exact ext_alloc (Below.refl _ _) _
      clear hX
      replace S := S.ext hx; replace O := O.ext hx; replace hb := ext_trans hb hx; clear hx
      clear sly
      clear G1 G2 ho
      have O_0 := O.bx.c0
      have O_1 := O.bx.c1
      have K_0 := K.bx.c0
      have K_1 := K.bx.c1
      go_wp2_with fail
      refine (equalC_same r _ _ zs _ _ _ O.sx K.sx).mono ?_
      rintro e w4 ⟨rfl, hx⟩
      clear O_0 O_1 K_0 K_1
      replace S := S.ext hx; replace O := O.ext hx; replace K := K.ext hx; replace hb := ext_trans hb hx; clear hx
      have S_0 := S.bx.c0; have S_1 := S.bx.c1
      have V1 : Hid (∀ W A c, SlI W A c xs → Calls Try.prog 11 #[.agg #[.int .i64 r, .slice A xs.length c]] W (fun e w' => e = .returned (.bool true) ∧ Below W.heap.size W w')) := hd (fun W A c s => by have := vca_any r A c xs W s; rwa [hv] at this)
      have g0 : decide (v < 0) = false := decide_eq_false (by have := inB_iff.1 hvr; omega)
      have g9 : decide ((9 : Int) < v) = false := decide_eq_false (by have := inB_iff.1 hvr; omega)
      have hr0 := (validC_iff.1 hv).r0
      have hr6 := (validC_iff.1 hv).r1
      have S_0 := S.bx.c0; have S_1 := S.bx.c1
      go_wp2_with fail
      refine (V1.out _ _ _ S.sx).mono ?_
      rintro e w5 ⟨rfl, hx⟩
      clear S_0 S_1
      replace S := S.ext hx; replace O := O.ext hx; replace K := K.ext hx; replace hb := ext_trans hb hx; clear hx
      clear V1
      clear S_0 S_1
      obtain ⟨al, hal⟩ : ∃ al, al = lv xs v := ⟨_, rfl⟩
      obtain ⟨d, hd0, hd1⟩ := US_order (xs := xs) v hr0
      rw [← HZ.out, ← hal] at hd1
      rw [← hal] at hd0
      obtain ⟨bl, hbl⟩ : ∃ bl, bl = lv zs v := ⟨_, rfl⟩
      rw [← hbl] at hd1
      have lz : zs.length ≤ 1048576 := by rw [HZ.out]; have := US_len (validC_iff.1 hv) v; omega
      have la : al.length ≤ 100 := by rw [hal]; have := lv_len xs v; omega
      have WA : Hid (∀ W A a, SlI W A a xs → Calls Try.prog 18 #[.slice A xs.length a, .int .i64 v] W (OwnI al W)) := hd (fun W A a s => by rw [hal]; exact without_any A a xs v W s (by omega))
      have WB : Hid (∀ W A a, SlI W A a zs → Calls Try.prog 18 #[.slice A zs.length a, .int .i64 v] W (OwnI bl W)) := hd (fun W A a s => by rw [hbl]; exact without_any A a zs v W s lz)
      have HD := hd hd1
      have hlb : bl.length + d = al.length := by rw [hd1, List.length_drop]; omega
      clear hal hbl hd1 lz hv hvr
      have S_0 := S.bx.c0; have S_1 := S.bx.c1; have O_0 := O.bx.c0; have O_1 := O.bx.c1
      go_wp2_with fail
      refine (WA.out _ _ _ S.sx).mono ?_
      rintro e wa ⟨u, rfl, own, hx⟩
      obtain ⟨aA, ac, rfl, ra⟩ := rwI_of_own own rfl rfl
      have sa := ra.sl
      clear own ra S_0 S_1 O_0 O_1
      replace S := S.ext hx; replace O := O.ext hx; replace K := K.ext hx; replace hb := ext_trans hb hx; clear hx
      have S_0 := S.bx.c0; have S_1 := S.bx.c1; have O_0 := O.bx.c0; have O_1 := O.bx.c1
      go_wp2_with fail
      refine (WB.out _ _ _ O.sx).mono ?_
      rintro e wb ⟨u, rfl, own, hx⟩
      obtain ⟨bA, bc, rfl, rb⟩ := rwI_of_own own rfl rfl
      have sb := rb.sl
      clear own rb S_0 S_1 O_0 O_1
      replace S := S.ext hx; replace O := O.ext hx; replace K := K.ext hx; replace sa := sa.ext hx; replace hb := ext_trans hb hx; clear hx
      have hmx := sa.max; have hcp := sa.cap
      unfold maxLen at hmx
      have hw : IntKind.i64.wrap ((al.length : Int) - (bl.length : Int)) = (d : Int) := by rw [IntKind.wrap_i64]; omega
      have gl : decide ((bl.length : Int) ≤ (al.length : Int)) = true := decide_eq_true (by omega)
      have gl2 : decide (bl.length ≤ al.length) = true := decide_eq_true (by omega)
      have sd := SlI.drop sa (m := d) (by omega)
      rw [← HD.out, Nat.mul_one] at sd
      have SD1 : Hid (ac = d → SlI wb aA 0 bl) := hd (fun e => by have := sd; rw [if_pos e, e, Nat.sub_self] at this; exact this)
      have SD2 : Hid (¬ ac = d → SlI wb (Option.map (fun x => x.add d) aA) (ac - d) bl) := hd (fun e => by have := sd; rwa [if_neg e] at this)
      clear sd
      have el : al.length - d = bl.length := by omega
      have hdc : d ≤ ac := by omega
      have EQ : Hid (∀ W A a B b, SlI W A a bl → SlI W B b bl → Calls Try.prog 19 #[.slice A bl.length a, .slice B bl.length b] W (fun e w' => e = .returned (.bool true) ∧ Below W.heap.size W w')) := hd (fun W A a B b s s' => by have := equalInts_any A B a b bl bl W s s'; rwa [sameI_self] at this)
      have SBB := hd sb
      have HBB := hd hb
      clear sa sb hb S O K
      go_wp2_with fail
      all_goals (refine (EQ.out _ _ _ _ _ (by first | exact SD1.out (by assumption) | exact SD2.out (by assumption)) SBB.out).mono ?_; rintro e wz ⟨rfl, hx⟩; have FIN := hd (ext_trans HBB.out hx); clear hx; go_wp2; go_ret; exact ⟨rfl, FIN.out⟩)
end Go.Proofs.Ytkbbjkjdcdjnbaa
