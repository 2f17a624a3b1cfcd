/- The walk of laws.FnDropStatement. -/
import Derived.Test.YtkbbjkjdcdjnbaaWCm
import Derived.Test.YtkbbjkjdcdjnbaaDrCn
namespace Go.Proofs.Ytkbbjkjdcdjnbaa
open Go.RowKit
set_option maxRecDepth 100000 in
set_option maxHeartbeats 4000000 in
theorem lawDropStatement (A : Option Addr) (n c : Nat) (w : World) (h : SlB w A n c) :
    Calls Try.prog 9 #[.slice A n c] w fun e w' => e = .returned (.bool true) ∧ Below w.heap.size w w' := by
  have hmax := h.2.1
  have hcap := h.1
  unfold maxLen at hmax
  by_cases hn : 1048576 < n
  · go_enter Try.func9, Try.ntmps9
    go_wp2
    go_ret
    exact ⟨rfl, Below.refl _ _⟩
  · go_enter Try.func9, Try.ntmps9
    go_wp2_with fail
    refine (drawDropStatement_any A n c w h).mono ?_
    rintro e w1 ⟨r, P, p, xs, v, rfl, rr0, rr1, sP, l1, hb, -⟩
    clear h
    go_upto_region 4 with fail
    obtain ⟨X1, hX⟩ : ∃ W, W = w1.alloc (.cells #[.int .i64 r, .slice P xs.length p] 25) := ⟨_, rfl⟩
    rw [← hX]
    have S : Hc X1 w1.heap.size r P p xs := by rw [hX]; exact hc_new w1 sP
    have hx : Below w1.heap.size w1 X1 := by rw [hX]; exact ext_alloc (Below.refl _ _) _
    clear hX
    replace hb := ext_trans hb hx; clear hx
    clear sP
    cases ho : DRP r xs v with
    | none =>
      have G1 : Hid (∀ W A c, SlI W A c xs → Calls Try.prog 21 #[.agg #[.int .i64 r, .slice A xs.length c], .int .i64 v] W (fun e w' => e = .returned (.tuple #[.agg #[.int .i64 0, .slice none 0 0], .bool false]) ∧ Below W.heap.size W w')) := hd (fun W A c s => by have := dr_any r A c xs v W s; rw [ho] at this; exact this)
      have G2 : Hid (∀ W A c, SlI W A c xs → Calls Try.prog 22 #[.agg #[.int .i64 r, .slice A xs.length c], .int .i64 v] W (fun e w' => e = .returned (.tuple #[.agg #[.int .i64 0, .slice none 0 0], .bool false]) ∧ Below W.heap.size W w')) := hd (fun W A c s => by have := sdr_any r A c xs v W s; rw [ho] at this; exact this)
      have S_0 := S.bx.c0; have S_1 := S.bx.c1
      go_wp2_with fail
      refine (G1.out _ _ _ S.sx).mono ?_
      rintro e w2 ⟨rfl, hx⟩
      clear S_0 S_1
      replace S := S.ext hx; replace hb := ext_trans hb hx; clear hx
      go_upto_region 5 with fail
      obtain ⟨X2, hX⟩ : ∃ W, W = w2.alloc (.cells #[.int .i64 0, .slice none 0 0] 25) := ⟨_, rfl⟩
      rw [← hX]
      have O : Hc X2 w2.heap.size 0 none 0 [] := by rw [hX]; exact hc_new w2 (slI_nil _)
      have hx : Below w2.heap.size w2 X2 := by rw [hX]; exact ext_alloc (Below.refl _ _) _
      clear hX
      replace S := S.ext hx; replace hb := ext_trans hb hx; clear hx
      have S_0 := S.bx.c0; have S_1 := S.bx.c1
      go_wp2_with fail
      refine (G2.out _ _ _ S.sx).mono ?_
      rintro e w3 ⟨rfl, hx⟩
      clear S_0 S_1
      replace S := S.ext hx; replace O := O.ext hx; replace hb := ext_trans hb hx; clear hx
      go_upto_region 6 with fail
      obtain ⟨X3, hX⟩ : ∃ W, W = w3.alloc (.cells #[.int .i64 0, .slice none 0 0] 25) := ⟨_, rfl⟩
      rw [← hX]
      have K : Hc X3 w3.heap.size 0 none 0 [] := by rw [hX]; exact hc_new w3 (slI_nil _)
      have hx : Below w3.heap.size w3 X3 := by rw [hX]; exact ext_alloc (Below.refl _ _) _
      clear hX
      replace S := S.ext hx; replace O := O.ext hx; replace hb := ext_trans hb hx; clear hx
      clear G1 G2
      have O_0 := O.bx.c0
      have O_1 := (show _ = some (Value.slice none 0 0) from O.bx.c1)
      have K_0 := K.bx.c0
      have K_1 := (show _ = some (Value.slice none 0 0) from K.bx.c1)
      go_wp2_with fail
      refine (equalC_same 0 _ _ [] _ _ _ O.sx K.sx).mono ?_
      rintro e w4 ⟨rfl, hx⟩
      clear O_0 O_1 K_0 K_1
      replace S := S.ext hx; replace O := O.ext hx; replace K := K.ext hx; replace hb := ext_trans hb hx; clear hx
      clear ho
      have O_0 := O.bx.c0
      have O_1 := (show _ = some (Value.slice none 0 0) from O.bx.c1)
      have K_0 := K.bx.c0
      have K_1 := (show _ = some (Value.slice none 0 0) from K.bx.c1)
      go_wp2_with fail
      refine (equalC_same 0 _ _ [] _ _ _ O.sx K.sx).mono ?_
      rintro e w5 ⟨rfl, hx⟩
      clear O_0 O_1 K_0 K_1
      replace S := S.ext hx; replace O := O.ext hx; replace K := K.ext hx; replace hb := ext_trans hb hx; clear hx
      have FIN := hd hb
      clear hb
      go_wp2
      go_ret
      exact ⟨rfl, FIN.out⟩
    | some zb =>
      obtain ⟨hv, hvx, rfl⟩ := DRP_some ho
      obtain ⟨zs, hz⟩ : ∃ zs, zs = lv xs v := ⟨_, rfl⟩
      rw [← hz] at ho
      have HZ := hd hz
      clear hz
      have G1 : Hid (∀ W A c, SlI W A c xs → Calls Try.prog 21 #[.agg #[.int .i64 r, .slice A xs.length c], .int .i64 v] W (CaB zs r true W)) := hd (fun W A c s => by have := dr_any r A c xs v W s; rw [ho] at this; exact this)
      have G2 : Hid (∀ W A c, SlI W A c xs → Calls Try.prog 22 #[.agg #[.int .i64 r, .slice A xs.length c], .int .i64 v] W (CaB zs r true W)) := hd (fun W A c s => by have := sdr_any r A c xs v W s; rw [ho] at this; exact this)
      have S_0 := S.bx.c0; have S_1 := S.bx.c1
      go_wp2_with fail
      refine (G1.out _ _ _ S.sx).mono ?_
      rintro e w2 ⟨xA, xa, rfl, rwx, hx⟩
      clear S_0 S_1
      have slx := rwx.sl; clear rwx
      replace S := S.ext hx; replace hb := ext_trans hb hx; clear hx
      go_upto_region 5 with fail
      obtain ⟨X2, hX⟩ : ∃ W, W = w2.alloc (.cells #[.int .i64 r, .slice xA zs.length xa] 25) := ⟨_, rfl⟩
      rw [← hX]
      have O : Hc X2 w2.heap.size r xA xa zs := by rw [hX]; exact hc_new w2 slx
      have hx : Below w2.heap.size w2 X2 := by rw [hX]; exact ext_alloc (Below.refl _ _) _
      clear hX
      replace S := S.ext hx; replace hb := ext_trans hb hx; clear hx
      clear slx
      have S_0 := S.bx.c0; have S_1 := S.bx.c1
      go_wp2_with fail
      refine (G2.out _ _ _ S.sx).mono ?_
      rintro e w3 ⟨yA, ya, rfl, rwy, hx⟩
      clear S_0 S_1
      have sly := rwy.sl; clear rwy
      replace S := S.ext hx; replace O := O.ext hx; replace hb := ext_trans hb hx; clear hx
      go_upto_region 6 with fail
      obtain ⟨X3, hX⟩ : ∃ W, W = w3.alloc (.cells #[.int .i64 r, .slice yA zs.length ya] 25) := ⟨_, rfl⟩
      rw [← hX]
      have K : Hc X3 w3.heap.size r yA ya zs := by rw [hX]; exact hc_new w3 sly
      have hx : Below w3.heap.size w3 X3 := by rw [hX]; exact ext_alloc (Below.refl _ _) _
      clear hX
      replace S := S.ext hx; replace O := O.ext hx; replace hb := ext_trans hb hx; clear hx
      clear sly
      clear G1 G2 ho
      have O_0 := O.bx.c0
      have O_1 := O.bx.c1
      have K_0 := K.bx.c0
      have K_1 := K.bx.c1
      go_wp2_with fail
      refine (equalC_same r _ _ zs _ _ _ O.sx K.sx).mono ?_
      rintro e w4 ⟨rfl, hx⟩
      clear O_0 O_1 K_0 K_1
      replace S := S.ext hx; replace O := O.ext hx; replace K := K.ext hx; replace hb := ext_trans hb hx; clear hx
      have hvr := VCa_mem hv hvx
      have hvz : VCa r zs = true := by rw [HZ.out]; exact VCa_lv hv v
      obtain ⟨us, hus⟩ : ∃ us, us = US r zs v := ⟨_, rfl⟩
      have hno : hasB zs v = false := by rw [HZ.out]; exact hasB_lv xs v
      have ho3 : USE r zs v = some (us, false) := by rw [USE_ok hvz hvr, hno, hus]
      have hlz : zs.length + 1 = xs.length := by rw [HZ.out]; exact lv_length (validC_iff.1 hv).nd hvx
      have hw : IntKind.i64.wrap ((xs.length : Int) - 1) = (zs.length : Int) := by rw [IntKind.wrap_i64]; omega
      have G3 : Hid (∀ W A c, SlI W A c zs → Calls Try.prog 14 #[.agg #[.int .i64 r, .slice A zs.length c], .int .i64 v] W (CaB us r false W)) := hd (fun W A c s => by have := us_any r A c zs v W s; rw [ho3] at this; exact this)
      have V1 : Hid (∀ W A c, SlI W A c zs → Calls Try.prog 11 #[.agg #[.int .i64 r, .slice A zs.length c]] W (fun e w' => e = .returned (.bool true) ∧ Below W.heap.size W w')) := hd (fun W A c s => by have := vca_any r A c zs W s; rwa [hvz] at this)
      have EQ : Hid (∀ W A a B b, SlI W A a zs → SlI W B b zs → Calls Try.prog 19 #[.slice A zs.length a, .slice B zs.length b] W (fun e w' => e = .returned (.bool true) ∧ Below W.heap.size W w')) := hd (fun W A a B b s s' => by have := equalInts_any A B a b zs zs W s s'; rwa [sameI_self] at this)
      have ge : ((zs.length : Int) == (zs.length : Int)) = true := by simp
      clear hvz hv hvr hvx hus hno ho3 hlz
      have O_0 := O.bx.c0; have O_1 := O.bx.c1
      go_wp2_with fail
      refine (G3.out _ _ _ O.sx).mono ?_
      rintro e w5 ⟨zA, za, rfl, rwz, hx⟩
      clear O_0 O_1
      have slz := rwz.sl; clear rwz
      replace S := S.ext hx; replace O := O.ext hx; replace K := K.ext hx; replace hb := ext_trans hb hx; clear hx
      go_upto_region 9 with fail
      obtain ⟨X5, hX⟩ : ∃ W, W = w5.alloc (.cells #[.int .i64 r, .slice zA us.length za] 25) := ⟨_, rfl⟩
      rw [← hX]
      have B : Hc X5 w5.heap.size r zA za us := by rw [hX]; exact hc_new w5 slz
      have hx : Below w5.heap.size w5 X5 := by rw [hX]; exact ext_alloc (Below.refl _ _) _
      clear hX
      replace S := S.ext hx; replace O := O.ext hx; replace K := K.ext hx; replace hb := ext_trans hb hx; clear hx
      clear slz
      clear G3
      have S1 := S.ext (ext_drew (Below.refl _ _)); have O1 := O.ext (ext_drew (Below.refl _ _)); have hb1 := ext_drew hb
      have WO0 := without_any P p xs v X5.drew S1.sx (by omega)
      rw [← HZ.out] at WO0
      have WO := hd WO0
      have S_0 := S.bx.c0; have S_1 := S.bx.c1; have O_0 := O.bx.c0; have O_1 := O.bx.c1
      have HS := hd (And.intro S1 (And.intro O1 hb1))
      clear S O K B hb S1 O1 hb1 WO0
      go_region_held3 (fun W => W.cell? ⟨w1.heap.size, 0, none⟩ = some (.int .i64 r) ∧ W.cell? ⟨w1.heap.size, 1, none⟩ = some (.slice P xs.length p) ∧ W.cell? ⟨w2.heap.size, 0, none⟩ = some (.int .i64 r) ∧ W.cell? ⟨w2.heap.size, 1, none⟩ = some (.slice xA zs.length xa)) (go_keep)
        (first
          | (go_at_call 18; (with_reducible refine WO.out.mono ?_); rintro e wA ⟨u, rfl, own, hx⟩; obtain ⟨aA, ac, rfl, ra⟩ := rwI_of_own own rfl rfl; have sa := ra.sl; have SA := HS.out.1.ext hx; have OA := HS.out.2.1.ext hx; have hbA := ext_trans HS.out.2.2 hx; have dS0 := SA.bx.c0; have dS1 := SA.bx.c1; have dO0 := OA.bx.c0; have dO1 := OA.bx.c1; clear own ra hx)
          | (go_at_call 19; (with_reducible refine (EQ.out _ _ _ _ _ OA.sx sa).mono ?_); rintro e wB ⟨rfl, hx⟩; have SB := SA.ext hx; have OB := OA.ext hx; have hbB := ext_trans hbA hx; have eS0 := SB.bx.c0; have eS1 := SB.bx.c1; have eO0 := OB.bx.c0; have eO1 := OB.bx.c1; clear hx; clear SA OA hbA sa)
          | (go_at_call 11; (with_reducible refine (V1.out _ _ _ OB.sx).mono ?_); rintro e wC ⟨rfl, hx⟩; have SC := SB.ext hx; have OC := OB.ext hx; have FIN := hd (ext_trans hbB hx); have fS0 := SC.bx.c0; have fS1 := SC.bx.c1; have fO0 := OC.bx.c0; have fO1 := OC.bx.c1; clear hx; clear SB OB SC OC hbB)
          | fail)
      all_goals (go_wp2; go_ret; exact ⟨rfl, FIN.out⟩)
end Go.Proofs.Ytkbbjkjdcdjnbaa
