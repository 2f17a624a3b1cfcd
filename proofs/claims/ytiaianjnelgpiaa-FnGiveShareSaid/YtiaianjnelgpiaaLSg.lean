/- The walk of laws.FnGiveShare. -/
import Derived.Test.YtiaianjnelgpiaaWSv
import Derived.Test.YtiaianjnelgpiaaWSe
import Derived.Test.YtiaianjnelgpiaaDrN
import Derived.Test.YtiaianjnelgpiaaPSl
namespace Go.Proofs.Ytiaianjnelgpiaa
open Go.RowKit
set_option maxRecDepth 100000 in
set_option maxHeartbeats 4000000 in
theorem lawGiveShare (A : Option Addr) (n c : Nat) (w : World) (h : SlB w A n c) :
    Calls Try.prog 6 #[.slice A n c] w fun e w' => e = .returned (.bool true) ∧ Below w.heap.size w w' := by
  have hmax := h.2.1
  have hcap := h.1
  unfold maxLen at hmax
  by_cases hn : 1048576 < n
  · go_enter Try.func6, Try.ntmps6
    go_wp2
    go_ret
    exact ⟨rfl, Below.refl _ _⟩
  · go_enter Try.func6, Try.ntmps6
    go_wp2_with fail
    refine (drawGiveShare_any A n c w h).mono ?_
    rintro e w1 ⟨t, P, p, xs, Q, q, ys, o, rfl, t0, t1, sP, sQ, l1, l2, o0, o1, hb, -, -⟩
    clear h
    go_upto_region 4 with fail
    obtain ⟨X1, hX⟩ : ∃ W, W = w1.alloc (.cells #[.int .i64 t, .slice P xs.length p, .slice Q ys.length q] 25) := ⟨_, rfl⟩
    rw [← hX]
    have S : Hs X1 w1.heap.size t P p xs Q q ys := by rw [hX]; exact hs_new w1 sP sQ
    have hx : Below w1.heap.size w1 X1 := by rw [hX]; exact ext_alloc (Below.refl _ _) _
    clear hX
    replace hb := ext_trans hb hx; clear hx
    clear sP sQ
    cases ho : AD t xs ys o 1 with
    | none =>
      have G1 : Hid (∀ W A B c d, SlI W A c xs → SlI W B d ys → Calls Try.prog 17 #[.agg #[.int .i64 t, .slice A xs.length c, .slice B ys.length d], .int .i64 o] W (ShO (none) t xs W)) := hd (fun W A B c d s s' => by have := gv_any t A c xs B d ys o W s s'; rwa [ho] at this)
      have G2 : Hid (∀ W A B c d, SlI W A c xs → SlI W B d ys → Calls Try.prog 18 #[.agg #[.int .i64 t, .slice A xs.length c, .slice B ys.length d], .int .i64 o] W (ShO (none) t xs W)) := hd (fun W A B c d s s' => by have := sgv_any t A c xs B d ys o W s s'; rwa [ho] at this)
      have S_0 := S.bx.c0; have S_1 := S.bx.c1; have S_2 := S.bx.c2
      go_wp2_with fail
      refine (G1.out _ _ _ _ _ S.sx S.sy).mono ?_
      rintro e w2 ⟨rfl, hx⟩
      clear S_0 S_1 S_2
      replace S := S.ext hx; replace hb := ext_trans hb hx; clear hx
      go_upto_region 5 with fail
      obtain ⟨X2, hX⟩ : ∃ W, W = w2.alloc (.cells #[.int .i64 0, .slice none 0 0, .slice none 0 0] 25) := ⟨_, rfl⟩
      rw [← hX]
      have O : Hs X2 w2.heap.size 0 none 0 [] none 0 [] := by rw [hX]; exact hs_new w2 (slI_nil _) (slI_nil _)
      have hx : Below w2.heap.size w2 X2 := by rw [hX]; exact ext_alloc (Below.refl _ _) _
      clear hX
      replace S := S.ext hx; replace hb := ext_trans hb hx; clear hx
      have S_0 := S.bx.c0; have S_1 := S.bx.c1; have S_2 := S.bx.c2
      go_wp2_with fail
      refine (G2.out _ _ _ _ _ S.sx S.sy).mono ?_
      rintro e w3 ⟨rfl, hx⟩
      clear S_0 S_1 S_2
      replace S := S.ext hx; replace O := O.ext hx; replace hb := ext_trans hb hx; clear hx
      go_upto_region 6 with fail
      obtain ⟨X3, hX⟩ : ∃ W, W = w3.alloc (.cells #[.int .i64 0, .slice none 0 0, .slice none 0 0] 25) := ⟨_, rfl⟩
      rw [← hX]
      have K : Hs X3 w3.heap.size 0 none 0 [] none 0 [] := by rw [hX]; exact hs_new w3 (slI_nil _) (slI_nil _)
      have hx : Below w3.heap.size w3 X3 := by rw [hX]; exact ext_alloc (Below.refl _ _) _
      clear hX
      replace S := S.ext hx; replace O := O.ext hx; replace hb := ext_trans hb hx; clear hx
      have O_0 := O.bx.c0
      have O_1 := (show _ = some (Value.slice none 0 0) from O.bx.c1)
      have O_2 := (show _ = some (Value.slice none 0 0) from O.bx.c2)
      have K_0 := K.bx.c0
      have K_1 := (show _ = some (Value.slice none 0 0) from K.bx.c1)
      have K_2 := (show _ = some (Value.slice none 0 0) from K.bx.c2)
      go_wp2_with fail
      refine (equalSh_same 0 _ _ [] _ _ [] _ _ _ _ _ O.sx O.sy K.sx K.sy).mono ?_
      rintro e w4 ⟨rfl, hx⟩
      clear O_0 O_1 O_2 K_0 K_1 K_2
      replace S := S.ext hx; replace O := O.ext hx; replace K := K.ext hx; replace hb := ext_trans hb hx; clear hx
      have O_0 := O.bx.c0
      have O_1 := (show _ = some (Value.slice none 0 0) from O.bx.c1)
      have O_2 := (show _ = some (Value.slice none 0 0) from O.bx.c2)
      have K_0 := K.bx.c0
      have K_1 := (show _ = some (Value.slice none 0 0) from K.bx.c1)
      have K_2 := (show _ = some (Value.slice none 0 0) from K.bx.c2)
      go_wp2_with fail
      refine (equalSh_same 0 _ _ [] _ _ [] _ _ _ _ _ O.sx O.sy K.sx K.sy).mono ?_
      rintro e w5 ⟨rfl, hx⟩
      clear O_0 O_1 O_2 K_0 K_1 K_2
      replace S := S.ext hx; replace O := O.ext hx; replace K := K.ext hx; replace hb := ext_trans hb hx; clear hx
      have FIN := hd hb
      clear hb
      go_wp2
      go_ret
      exact ⟨rfl, FIN.out⟩
    | some zs =>
      have G1 : Hid (∀ W A B c d, SlI W A c xs → SlI W B d ys → Calls Try.prog 17 #[.agg #[.int .i64 t, .slice A xs.length c, .slice B ys.length d], .int .i64 o] W (ShO (some zs) t xs W)) := hd (fun W A B c d s s' => by have := gv_any t A c xs B d ys o W s s'; rwa [ho] at this)
      have G2 : Hid (∀ W A B c d, SlI W A c xs → SlI W B d ys → Calls Try.prog 18 #[.agg #[.int .i64 t, .slice A xs.length c, .slice B ys.length d], .int .i64 o] W (ShO (some zs) t xs W)) := hd (fun W A B c d s s' => by have := sgv_any t A c xs B d ys o W s s'; rwa [ho] at this)
      have S_0 := S.bx.c0; have S_1 := S.bx.c1; have S_2 := S.bx.c2
      go_wp2_with fail
      refine (G1.out _ _ _ _ _ S.sx S.sy).mono ?_
      rintro e w2 ⟨xA, xa, xB, xb, rfl, r1, r2, -, hx⟩
      clear S_0 S_1 S_2
      have u1 := r1.sl; have u2 := r2.sl; clear r1 r2
      replace S := S.ext hx; replace hb := ext_trans hb hx; clear hx
      go_upto_region 5 with fail
      obtain ⟨X2, hX⟩ : ∃ W, W = w2.alloc (.cells #[.int .i64 t, .slice xA xs.length xa, .slice xB zs.length xb] 25) := ⟨_, rfl⟩
      rw [← hX]
      have O : Hs X2 w2.heap.size t xA xa xs xB xb zs := by rw [hX]; exact hs_new w2 u1 u2
      have hx : Below w2.heap.size w2 X2 := by rw [hX]; exact ext_alloc (Below.refl _ _) _
      clear hX
      replace S := S.ext hx; replace hb := ext_trans hb hx; clear hx
      clear u1 u2
      have S_0 := S.bx.c0; have S_1 := S.bx.c1; have S_2 := S.bx.c2
      go_wp2_with fail
      refine (G2.out _ _ _ _ _ S.sx S.sy).mono ?_
      rintro e w3 ⟨yA, ya, yB, yb, rfl, r1, r2, -, hx⟩
      clear S_0 S_1 S_2
      have u1 := r1.sl; have u2 := r2.sl; clear r1 r2
      replace S := S.ext hx; replace O := O.ext hx; replace hb := ext_trans hb hx; clear hx
      go_upto_region 6 with fail
      obtain ⟨X3, hX⟩ : ∃ W, W = w3.alloc (.cells #[.int .i64 t, .slice yA xs.length ya, .slice yB zs.length yb] 25) := ⟨_, rfl⟩
      rw [← hX]
      have K : Hs X3 w3.heap.size t yA ya xs yB yb zs := by rw [hX]; exact hs_new w3 u1 u2
      have hx : Below w3.heap.size w3 X3 := by rw [hX]; exact ext_alloc (Below.refl _ _) _
      clear hX
      replace S := S.ext hx; replace O := O.ext hx; replace hb := ext_trans hb hx; clear hx
      clear u1 u2
      have O_0 := O.bx.c0
      have O_1 := O.bx.c1
      have O_2 := O.bx.c2
      have K_0 := K.bx.c0
      have K_1 := K.bx.c1
      have K_2 := K.bx.c2
      go_wp2_with fail
      refine (equalSh_same t _ _ xs _ _ zs _ _ _ _ _ O.sx O.sy K.sx K.sy).mono ?_
      rintro e w4 ⟨rfl, hx⟩
      clear O_0 O_1 O_2 K_0 K_1 K_2
      replace S := S.ext hx; replace O := O.ext hx; replace K := K.ext hx; replace hb := ext_trans hb hx; clear hx
      obtain ⟨hback, hz, hv, hsum⟩ := AD_give_back ho
      have BK : Hid (∀ W A B c d, SlI W A c xs → SlI W B d zs → Calls Try.prog 15 #[.agg #[.int .i64 t, .slice A xs.length c, .slice B zs.length d], .int .i64 o] W (ShO (some ys) t xs W)) := hd (fun W A B c d s s' => by have := tk_any t A c xs B d zs o W s s'; rwa [hback] at this)
      have V1 : Hid (∀ W A B c d, SlI W A c xs → SlI W B d zs → Calls Try.prog 12 #[.agg #[.int .i64 t, .slice A xs.length c, .slice B zs.length d]] W (fun e w' => e = .returned (.bool true) ∧ Below W.heap.size W w')) := hd (fun W A B c d s s' => by have := vsh_any t A c xs B d zs W s s'; rwa [hz] at this)
      obtain ⟨lY, -, -⟩ := valid_len hv
      have HVY := hd (valid_sums hv)
      obtain ⟨lZ, -, -⟩ := valid_len hz
      have HVZ := hd (valid_sums hz)
      have hs2 := (valid_iff.1 hv).sm
      have hs3 := (valid_iff.1 hv).t1
      have hs0 : 0 ≤ ys.sum := by have V := valid_iff.1 hv; have a0 := V.my 0 (by omega); have a1 := V.my 1 (by omega); have a2 := V.my 2 (by omega); have a3 := V.my 3 (by omega); have a4 := V.my 4 (by omega); rw [sum5 V.ly]; omega
      obtain ⟨sz, hsz⟩ : ∃ sz, sz = zs.sum := ⟨_, rfl⟩
      obtain ⟨sy, hsy⟩ : ∃ sy, sy = ys.sum := ⟨_, rfl⟩
      rw [← hsz, ← hsy] at hsum
      rw [← hsy] at hs2 hs0
      have gs : (sz == sy + 1) = true := beq_iff_eq.2 hsum
      have hwr : IntKind.i64.wrap (sy + 1) = sy + 1 := by rw [IntKind.wrap_i64]; omega
      have SZ := hd (fun W A c (s : SlI W A c zs) => by have := lsum_any A c zs W s lZ HVZ.out; rwa [← hsz] at this)
      have SY := hd (fun W A c (s : SlI W A c ys) => by have := lsum_any A c ys W s lY HVY.out; rwa [← hsy] at this)
      clear ho hback hz hv hsum hsz hsy
      have O_0 := O.bx.c0; have O_1 := O.bx.c1; have O_2 := O.bx.c2
      go_wp2_with fail
      refine (BK.out _ _ _ _ _ O.sx O.sy).mono ?_
      rintro e w5 ⟨zA, za, zB, zb, rfl, r1, r2, -, hx⟩
      clear O_0 O_1 O_2
      have u1 := r1.sl; have u2 := r2.sl; clear r1 r2
      replace S := S.ext hx; replace O := O.ext hx; replace K := K.ext hx; replace hb := ext_trans hb hx; clear hx
      go_upto_region 9 with fail
      obtain ⟨X5, hX⟩ : ∃ W, W = w5.alloc (.cells #[.int .i64 t, .slice zA xs.length za, .slice zB ys.length zb] 25) := ⟨_, rfl⟩
      rw [← hX]
      have B : Hs X5 w5.heap.size t zA za xs zB zb ys := by rw [hX]; exact hs_new w5 u1 u2
      have hx : Below w5.heap.size w5 X5 := by rw [hX]; exact ext_alloc (Below.refl _ _) _
      clear hX
      replace S := S.ext hx; replace O := O.ext hx; replace K := K.ext hx; replace hb := ext_trans hb hx; clear hx
      clear u1 u2
      have S1 := S.ext (ext_drew (Below.refl _ _)); have O1 := O.ext (ext_drew (Below.refl _ _)); have B1 := B.ext (ext_drew (Below.refl _ _)); have hb1 := ext_drew hb
      have EQ := hd (equalSh_same t zA za xs zB zb ys P p Q q X5.drew B1.sx B1.sy S1.sx S1.sy)
      have S_0 := S.bx.c0; have S_1 := S.bx.c1; have S_2 := S.bx.c2; have O_0 := O.bx.c0; have O_1 := O.bx.c1; have O_2 := O.bx.c2; have B_0 := B.bx.c0; have B_1 := B.bx.c1; have B_2 := B.bx.c2
      obtain ⟨gS, hgS⟩ : ∃ g, g = w1.heap.size := ⟨_, rfl⟩
      obtain ⟨gO, hgO⟩ : ∃ g, g = w2.heap.size := ⟨_, rfl⟩
      obtain ⟨gB, hgB⟩ : ∃ g, g = w5.heap.size := ⟨_, rfl⟩
      have HS := hd (And.intro S1 (And.intro O1 (And.intro B1 hb1)))
      clear S O B K hb S1 O1 B1 hb1 G1 G2 BK hgS hgO hgB
      go_region_held3 (fun W => W.cell? ⟨w1.heap.size, 0, none⟩ = some (.int .i64 t) ∧ W.cell? ⟨w1.heap.size, 1, none⟩ = some (.slice P xs.length p) ∧ W.cell? ⟨w1.heap.size, 2, none⟩ = some (.slice Q ys.length q) ∧ W.cell? ⟨w2.heap.size, 0, none⟩ = some (.int .i64 t) ∧ W.cell? ⟨w2.heap.size, 1, none⟩ = some (.slice xA xs.length xa) ∧ W.cell? ⟨w2.heap.size, 2, none⟩ = some (.slice xB zs.length xb) ∧ W.cell? ⟨w5.heap.size, 0, none⟩ = some (.int .i64 t) ∧ W.cell? ⟨w5.heap.size, 1, none⟩ = some (.slice zA xs.length za) ∧ W.cell? ⟨w5.heap.size, 2, none⟩ = some (.slice zB ys.length zb)) (go_keep)
        (first
          | (go_at_call 19; (with_reducible refine EQ.out.mono ?_); rintro e wA ⟨rfl, hx⟩; have SA := HS.out.1.ext hx; have OA := HS.out.2.1.ext hx; have BA := HS.out.2.2.1.ext hx; have hbA := ext_trans HS.out.2.2.2 hx; have dS0 := SA.bx.c0; have dS1 := SA.bx.c1; have dS2 := SA.bx.c2; have dO0 := OA.bx.c0; have dO1 := OA.bx.c1; have dO2 := OA.bx.c2; have dB0 := BA.bx.c0; have dB1 := BA.bx.c1; have dB2 := BA.bx.c2; clear hx)
          | (go_at_call 12; (with_reducible refine (V1.out _ _ _ _ _ OA.sx OA.sy).mono ?_); rintro e wB ⟨rfl, hx⟩; have SB := SA.ext hx; have OB := OA.ext hx; have BB := BA.ext hx; have FIN := hd (ext_trans hbA hx); have eS0 := SB.bx.c0; have eS1 := SB.bx.c1; have eS2 := SB.bx.c2; have eO0 := OB.bx.c0; have eO1 := OB.bx.c1; have eO2 := OB.bx.c2; have eB0 := BB.bx.c0; have eB1 := BB.bx.c1; have eB2 := BB.bx.c2; clear hx; clear SA OA BA hbA)
          | (go_at_call 14; (with_reducible refine (SZ.out _ _ _ OB.sy).mono ?_); rintro e wC ⟨rfl, rfl⟩)
          | (go_at_call 14; (with_reducible refine (SY.out _ _ _ SB.sy).mono ?_); rintro e wD ⟨rfl, rfl⟩)
          | fail)
      all_goals (go_wp2; go_ret; exact ⟨rfl, FIN.out⟩)
end Go.Proofs.Ytiaianjnelgpiaa
