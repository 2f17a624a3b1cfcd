/- The walk of laws.FnDropStatementUse. -/
import Derived.Test.YtkbbjkjdcdjnbaaWCl
import Derived.Test.YtkbbjkjdcdjnbaaDrCn
namespace Go.Proofs.Ytkbbjkjdcdjnbaa
open Go.RowKit
set_option maxRecDepth 100000 in
set_option maxHeartbeats 4000000 in
theorem lawDropStatementUse (A : Option Addr) (n c : Nat) (w : World) (h : SlB w A n c) :
    Calls Try.prog 8 #[.slice A n c] w fun e w' => e = .returned (.bool true) ∧ Below w.heap.size w w' := by
  have hmax := h.2.1
  have hcap := h.1
  unfold maxLen at hmax
  by_cases hn : 1048576 < n
  · go_enter Try.func8, Try.ntmps8
    go_wp2
    go_ret
    exact ⟨rfl, Below.refl _ _⟩
  · go_enter Try.func8, Try.ntmps8
    go_wp2_with fail
    refine (drawDropStatement_any A n c w h).mono ?_
    rintro e w1 ⟨r, P, p, xs, v, rfl, rr0, rr1, sP, l1, hb, -⟩
    clear h
    go_upto_region 4 with fail
    obtain ⟨X1, hX⟩ : ∃ W, W = w1.alloc (.cells #[.int .i64 r, .slice P xs.length p] 25) := ⟨_, rfl⟩
    rw [← hX]
    have S : Hc X1 w1.heap.size r P p xs := by rw [hX]; exact hc_new w1 sP
    have hx : Below w1.heap.size w1 X1 := by rw [hX]; exact ext_alloc (Below.refl _ _) _
    clear hX
    replace hb := ext_trans hb hx; clear hx
    clear sP
    cases ho : DRP r xs v with
    | none =>
      have G1 : Hid (∀ W A c, SlI W A c xs → Calls Try.prog 21 #[.agg #[.int .i64 r, .slice A xs.length c], .int .i64 v] W (fun e w' => e = .returned (.tuple #[.agg #[.int .i64 0, .slice none 0 0], .bool false]) ∧ Below W.heap.size W w')) := hd (fun W A c s => by have := dr_any r A c xs v W s; rw [ho] at this; exact this)
      have G2 : Hid (∀ W A c, SlI W A c xs → Calls Try.prog 22 #[.agg #[.int .i64 r, .slice A xs.length c], .int .i64 v] W (fun e w' => e = .returned (.tuple #[.agg #[.int .i64 0, .slice none 0 0], .bool false]) ∧ Below W.heap.size W w')) := hd (fun W A c s => by have := sdr_any r A c xs v W s; rw [ho] at this; exact this)
      have S_0 := S.bx.c0; have S_1 := S.bx.c1
      go_wp2_with fail
      refine (G1.out _ _ _ S.sx).mono ?_
      rintro e w2 ⟨rfl, hx⟩
      clear S_0 S_1
      replace S := S.ext hx; replace hb := ext_trans hb hx; clear hx
      go_upto_region 5 with fail
      obtain ⟨X2, hX⟩ : ∃ W, W = w2.alloc (.cells #[.int .i64 0, .slice none 0 0] 25) := ⟨_, rfl⟩
      rw [← hX]
      have O : Hc X2 w2.heap.size 0 none 0 [] := by rw [hX]; exact hc_new w2 (slI_nil _)
      have hx : Below w2.heap.size w2 X2 := by rw [hX]; exact ext_alloc (Below.refl _ _) _
      clear hX
      replace S := S.ext hx; replace hb := ext_trans hb hx; clear hx
      have S_0 := S.bx.c0; have S_1 := S.bx.c1
      go_wp2_with fail
      refine (G2.out _ _ _ S.sx).mono ?_
      rintro e w3 ⟨rfl, hx⟩
      clear S_0 S_1
      replace S := S.ext hx; replace O := O.ext hx; replace hb := ext_trans hb hx; clear hx
      go_upto_region 6 with fail
      obtain ⟨X3, hX⟩ : ∃ W, W = w3.alloc (.cells #[.int .i64 0, .slice none 0 0] 25) := ⟨_, rfl⟩
      rw [← hX]
      have K : Hc X3 w3.heap.size 0 none 0 [] := by rw [hX]; exact hc_new w3 (slI_nil _)
      have hx : Below w3.heap.size w3 X3 := by rw [hX]; exact ext_alloc (Below.refl _ _) _
      clear hX
      replace S := S.ext hx; replace O := O.ext hx; replace hb := ext_trans hb hx; clear hx
      clear G1 G2
      have O_0 := O.bx.c0
      have O_1 := (show _ = some (Value.slice none 0 0) from O.bx.c1)
      have K_0 := K.bx.c0
      have K_1 := (show _ = some (Value.slice none 0 0) from K.bx.c1)
      go_wp2_with fail
      refine (equalC_same 0 _ _ [] _ _ _ O.sx K.sx).mono ?_
      rintro e w4 ⟨rfl, hx⟩
      clear O_0 O_1 K_0 K_1
      replace S := S.ext hx; replace O := O.ext hx; replace K := K.ext hx; replace hb := ext_trans hb hx; clear hx
      clear ho
      have O_0 := O.bx.c0
      have O_1 := (show _ = some (Value.slice none 0 0) from O.bx.c1)
      have K_0 := K.bx.c0
      have K_1 := (show _ = some (Value.slice none 0 0) from K.bx.c1)
      go_wp2_with fail
      refine (equalC_same 0 _ _ [] _ _ _ O.sx K.sx).mono ?_
      rintro e w5 ⟨rfl, hx⟩
      clear O_0 O_1 K_0 K_1
      replace S := S.ext hx; replace O := O.ext hx; replace K := K.ext hx; replace hb := ext_trans hb hx; clear hx
      have FIN := hd hb
      clear hb
      go_wp2
      go_ret
      exact ⟨rfl, FIN.out⟩
    | some zb =>
      obtain ⟨hv, hvx, rfl⟩ := DRP_some ho
      obtain ⟨zs, hz⟩ : ∃ zs, zs = lv xs v := ⟨_, rfl⟩
      rw [← hz] at ho
      have HZ := hd hz
      clear hz
      have G1 : Hid (∀ W A c, SlI W A c xs → Calls Try.prog 21 #[.agg #[.int .i64 r, .slice A xs.length c], .int .i64 v] W (CaB zs r true W)) := hd (fun W A c s => by have := dr_any r A c xs v W s; rw [ho] at this; exact this)
      have G2 : Hid (∀ W A c, SlI W A c xs → Calls Try.prog 22 #[.agg #[.int .i64 r, .slice A xs.length c], .int .i64 v] W (CaB zs r true W)) := hd (fun W A c s => by have := sdr_any r A c xs v W s; rw [ho] at this; exact this)
      have S_0 := S.bx.c0; have S_1 := S.bx.c1
      go_wp2_with fail
      refine (G1.out _ _ _ S.sx).mono ?_
      rintro e w2 ⟨xA, xa, rfl, rwx, hx⟩
      clear S_0 S_1
      have slx := rwx.sl; clear rwx
      replace S := S.ext hx; replace hb := ext_trans hb hx; clear hx
      go_upto_region 5 with fail
      obtain ⟨X2, hX⟩ : ∃ W, W = w2.alloc (.cells #[.int .i64 r, .slice xA zs.length xa] 25) := ⟨_, rfl⟩
      rw [← hX]
      have O : Hc X2 w2.heap.size r xA xa zs := by rw [hX]; exact hc_new w2 slx
      have hx : Below w2.heap.size w2 X2 := by rw [hX]; exact ext_alloc (Below.refl _ _) _
      clear hX
      replace S := S.ext hx; replace hb := ext_trans hb hx; clear hx
      clear slx
      have S_0 := S.bx.c0; have S_1 := S.bx.c1
      go_wp2_with fail
      refine (G2.out _ _ _ S.sx).mono ?_
      rintro e w3 ⟨yA, ya, rfl, rwy, hx⟩
      clear S_0 S_1
      have sly := rwy.sl; clear rwy
      replace S := S.ext hx; replace O := O.ext hx; replace hb := ext_trans hb hx; clear hx
      go_upto_region 6 with fail
      obtain ⟨X3, hX⟩ : ∃ W, W = w3.alloc (.cells #[.int .i64 r, .slice yA zs.length ya] 25) := ⟨_, rfl⟩
      rw [← hX]
      have K : Hc X3 w3.heap.size r yA ya zs := by rw [hX]; exact hc_new w3 sly
      have hx : Below w3.heap.size w3 X3 := by rw [hX]; exact ext_alloc (Below.refl _ _) _
      clear hX
      replace S := S.ext hx; replace O := O.ext hx; replace hb := ext_trans hb hx; clear hx
      clear sly
      clear G1 G2 ho
      have O_0 := O.bx.c0
      have O_1 := O.bx.c1
      have K_0 := K.bx.c0
      have K_1 := K.bx.c1
      go_wp2_with fail
      refine (equalC_same r _ _ zs _ _ _ O.sx K.sx).mono ?_
      rintro e w4 ⟨rfl, hx⟩
      clear O_0 O_1 K_0 K_1
      replace S := S.ext hx; replace O := O.ext hx; replace K := K.ext hx; replace hb := ext_trans hb hx; clear hx
      have hvr := VCa_mem hv hvx
      have hvz : VCa r zs = true := by rw [HZ.out]; exact VCa_lv hv v
      obtain ⟨us, hus⟩ : ∃ us, us = US r xs v := ⟨_, rfl⟩
      obtain ⟨b1, hb1⟩ : ∃ b, b = hasB zs v := ⟨_, rfl⟩
      obtain ⟨b2, hb2⟩ : ∃ b, b = hasB xs v := ⟨_, rfl⟩
      have ho1 : USE r zs v = some (us, b1) := by rw [USE_ok hvz hvr, hus, hb1, HZ.out, US_lv]
      have ho2 : USE r xs v = some (us, b2) := by rw [USE_ok hv hvr, hus, hb2]
      have G3 : Hid (∀ W A c, SlI W A c zs → Calls Try.prog 14 #[.agg #[.int .i64 r, .slice A zs.length c], .int .i64 v] W (CaB us r b1 W)) := hd (fun W A c s => by have := us_any r A c zs v W s; rw [ho1] at this; exact this)
      have G4 : Hid (∀ W A c, SlI W A c xs → Calls Try.prog 14 #[.agg #[.int .i64 r, .slice A xs.length c], .int .i64 v] W (CaB us r b2 W)) := hd (fun W A c s => by have := us_any r A c xs v W s; rw [ho2] at this; exact this)
      clear hvz hv hvr hvx hus hb1 hb2 ho1 ho2
      have O_0 := O.bx.c0; have O_1 := O.bx.c1
      go_wp2_with fail
      refine (G3.out _ _ _ O.sx).mono ?_
      rintro e w5 ⟨zA, za, rfl, rwz, hx⟩
      clear O_0 O_1
      have slz := rwz.sl; clear rwz
      replace S := S.ext hx; replace O := O.ext hx; replace K := K.ext hx; replace hb := ext_trans hb hx; clear hx
      go_upto_region 9 with fail
      obtain ⟨X5, hX⟩ : ∃ W, W = w5.alloc (.cells #[.int .i64 r, .slice zA us.length za] 25) := ⟨_, rfl⟩
      rw [← hX]
      have B : Hc X5 w5.heap.size r zA za us := by rw [hX]; exact hc_new w5 slz
      have hx : Below w5.heap.size w5 X5 := by rw [hX]; exact ext_alloc (Below.refl _ _) _
      clear hX
      replace S := S.ext hx; replace O := O.ext hx; replace K := K.ext hx; replace hb := ext_trans hb hx; clear hx
      clear slz
      have S_0 := S.bx.c0; have S_1 := S.bx.c1
      go_wp2_with fail
      refine (G4.out _ _ _ S.sx).mono ?_
      rintro e w6 ⟨qA, qa, rfl, rwq, hx⟩
      clear S_0 S_1
      have slq := rwq.sl; clear rwq
      replace S := S.ext hx; replace O := O.ext hx; replace K := K.ext hx; replace B := B.ext hx; replace hb := ext_trans hb hx; clear hx
      go_upto_region 10 with fail
      obtain ⟨X6, hX⟩ : ∃ W, W = w6.alloc (.cells #[.int .i64 r, .slice qA us.length qa] 25) := ⟨_, rfl⟩
      rw [← hX]
      have D : Hc X6 w6.heap.size r qA qa us := by rw [hX]; exact hc_new w6 slq
      have hx : Below w6.heap.size w6 X6 := by rw [hX]; exact ext_alloc (Below.refl _ _) _
      clear hX
      replace S := S.ext hx; replace O := O.ext hx; replace K := K.ext hx; replace B := B.ext hx; replace hb := ext_trans hb hx; clear hx
      clear slq
      clear G3 G4
      have B_0 := B.bx.c0
      have B_1 := B.bx.c1
      have D_0 := D.bx.c0
      have D_1 := D.bx.c1
      go_wp2_with fail
      refine (equalC_same r _ _ us _ _ _ B.sx D.sx).mono ?_
      rintro e w7 ⟨rfl, hx⟩
      clear B_0 B_1 D_0 D_1
      replace S := S.ext hx; replace O := O.ext hx; replace K := K.ext hx; replace B := B.ext hx; replace D := D.ext hx; replace hb := ext_trans hb hx; clear hx
      have FIN := hd hb
      clear hb
      go_wp2
      go_ret
      exact ⟨rfl, FIN.out⟩
end Go.Proofs.Ytkbbjkjdcdjnbaa
