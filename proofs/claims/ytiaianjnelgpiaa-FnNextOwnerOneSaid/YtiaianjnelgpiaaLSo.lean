/- The walk of laws.FnNextOwnerOne. -/
import Derived.Test.YtiaianjnelgpiaaWSv
import Derived.Test.YtiaianjnelgpiaaWSe
import Derived.Test.YtiaianjnelgpiaaWSg
import Derived.Test.YtiaianjnelgpiaaDrN
import Derived.Test.YtiaianjnelgpiaaPSl
namespace Go.Proofs.Ytiaianjnelgpiaa
open Go.RowKit
set_option maxRecDepth 100000 in
set_option maxHeartbeats 4000000 in
theorem lawNextOwnerOne (A : Option Addr) (n c : Nat) (w : World) (h : SlB w A n c) :
    Calls Try.prog 8 #[.slice A n c] w fun e w' => e = .returned (.bool true) ∧ Below w.heap.size w w' := by
  have hmax := h.2.1
  have hcap := h.1
  unfold maxLen at hmax
  by_cases hn : 1048576 < n
  · go_enter Try.func8, Try.ntmps8
    go_wp2
    go_ret
    exact ⟨rfl, Below.refl _ _⟩
  · go_enter Try.func8, Try.ntmps8
    go_wp2_with fail
    refine (drawGiveShare_any A n c w h).mono ?_
    rintro e w1 ⟨t, P, p, xs, Q, q, ys, o, rfl, t0, t1, sP, sQ, l1, l2, o0, o1, hb, -, -⟩
    clear h
    go_upto_region 4 with fail
    obtain ⟨X1, hX⟩ : ∃ W, W = w1.alloc (.cells #[.int .i64 t, .slice P xs.length p, .slice Q ys.length q] 25) := ⟨_, rfl⟩
    rw [← hX]
    have S : Hs X1 w1.heap.size t P p xs Q q ys := by rw [hX]; exact hs_new w1 sP sQ
    have hx : Below w1.heap.size w1 X1 := by rw [hX]; exact ext_alloc (Below.refl _ _) _
    clear hX
    replace hb := ext_trans hb hx; clear hx
    clear sP sQ
    cases ho : AD t xs ys o 1 with
    | none =>
      have G1 : Hid (∀ W A B c d, SlI W A c xs → SlI W B d ys → Calls Try.prog 17 #[.agg #[.int .i64 t, .slice A xs.length c, .slice B ys.length d], .int .i64 o] W (ShO (none) t xs W)) := hd (fun W A B c d s s' => by have := gv_any t A c xs B d ys o W s s'; rwa [ho] at this)
      have G2 : Hid (∀ W A B c d, SlI W A c xs → SlI W B d ys → Calls Try.prog 18 #[.agg #[.int .i64 t, .slice A xs.length c, .slice B ys.length d], .int .i64 o] W (ShO (none) t xs W)) := hd (fun W A B c d s s' => by have := sgv_any t A c xs B d ys o W s s'; rwa [ho] at this)
      have S_0 := S.bx.c0; have S_1 := S.bx.c1; have S_2 := S.bx.c2
      go_wp2_with fail
      refine (G1.out _ _ _ _ _ S.sx S.sy).mono ?_
      rintro e w2 ⟨rfl, hx⟩
      clear S_0 S_1 S_2
      replace S := S.ext hx; replace hb := ext_trans hb hx; clear hx
      go_upto_region 5 with fail
      obtain ⟨X2, hX⟩ : ∃ W, W = w2.alloc (.cells #[.int .i64 0, .slice none 0 0, .slice none 0 0] 25) := ⟨_, rfl⟩
      rw [← hX]
      have O : Hs X2 w2.heap.size 0 none 0 [] none 0 [] := by rw [hX]; exact hs_new w2 (slI_nil _) (slI_nil _)
      have hx : Below w2.heap.size w2 X2 := by rw [hX]; exact ext_alloc (Below.refl _ _) _
      clear hX
      replace S := S.ext hx; replace hb := ext_trans hb hx; clear hx
      have S_0 := S.bx.c0; have S_1 := S.bx.c1; have S_2 := S.bx.c2
      go_wp2_with fail
      refine (G2.out _ _ _ _ _ S.sx S.sy).mono ?_
      rintro e w3 ⟨rfl, hx⟩
      clear S_0 S_1 S_2
      replace S := S.ext hx; replace O := O.ext hx; replace hb := ext_trans hb hx; clear hx
      go_upto_region 6 with fail
      obtain ⟨X3, hX⟩ : ∃ W, W = w3.alloc (.cells #[.int .i64 0, .slice none 0 0, .slice none 0 0] 25) := ⟨_, rfl⟩
      rw [← hX]
      have K : Hs X3 w3.heap.size 0 none 0 [] none 0 [] := by rw [hX]; exact hs_new w3 (slI_nil _) (slI_nil _)
      have hx : Below w3.heap.size w3 X3 := by rw [hX]; exact ext_alloc (Below.refl _ _) _
      clear hX
      replace S := S.ext hx; replace O := O.ext hx; replace hb := ext_trans hb hx; clear hx
      have O_0 := O.bx.c0
      have O_1 := (show _ = some (Value.slice none 0 0) from O.bx.c1)
      have O_2 := (show _ = some (Value.slice none 0 0) from O.bx.c2)
      have K_0 := K.bx.c0
      have K_1 := (show _ = some (Value.slice none 0 0) from K.bx.c1)
      have K_2 := (show _ = some (Value.slice none 0 0) from K.bx.c2)
      go_wp2_with fail
      refine (equalSh_same 0 _ _ [] _ _ [] _ _ _ _ _ O.sx O.sy K.sx K.sy).mono ?_
      rintro e w4 ⟨rfl, hx⟩
      clear O_0 O_1 O_2 K_0 K_1 K_2
      replace S := S.ext hx; replace O := O.ext hx; replace K := K.ext hx; replace hb := ext_trans hb hx; clear hx
      have hno := NO_one t xs ys o
      rw [ho] at hno
      have gno : (NO t xs ys [o] == 0) = false := hno
      clear ho hno
      go_upto_region 8 with fail
      have S_0 := S.bx.c0; have S_1 := S.bx.c1; have S_2 := S.bx.c2
      have hx0 : Below w4.heap.size w4 (w4.alloc (.cells #[.int .i64 o] 3)) := ext_alloc (Below.refl _ _) _
      have sl1 : SlI (w4.alloc (.cells #[.int .i64 o] 3)) (some ⟨w4.heap.size, 0, none⟩) 1 [o] := slI_made w4 3 [o] (by simp)
      have sx := S.sx.ext hx0; have sy := S.sy.ext hx0
      go_wp2_with fail
      refine (no_any t P p xs Q q ys (some ⟨w4.heap.size, 0, none⟩) 1 [o] _ sx sy sl1).mono ?_
      rintro e wz ⟨rfl, hx⟩
      have FIN := hd (ext_trans (ext_trans hb hx0) hx)
      clear S O K hb hx hx0 sl1 sx sy S_0 S_1 S_2
      go_wp2
      go_ret
      exact ⟨rfl, FIN.out⟩
    | some zs =>
      have G1 : Hid (∀ W A B c d, SlI W A c xs → SlI W B d ys → Calls Try.prog 17 #[.agg #[.int .i64 t, .slice A xs.length c, .slice B ys.length d], .int .i64 o] W (ShO (some zs) t xs W)) := hd (fun W A B c d s s' => by have := gv_any t A c xs B d ys o W s s'; rwa [ho] at this)
      have G2 : Hid (∀ W A B c d, SlI W A c xs → SlI W B d ys → Calls Try.prog 18 #[.agg #[.int .i64 t, .slice A xs.length c, .slice B ys.length d], .int .i64 o] W (ShO (some zs) t xs W)) := hd (fun W A B c d s s' => by have := sgv_any t A c xs B d ys o W s s'; rwa [ho] at this)
      have S_0 := S.bx.c0; have S_1 := S.bx.c1; have S_2 := S.bx.c2
      go_wp2_with fail
      refine (G1.out _ _ _ _ _ S.sx S.sy).mono ?_
      rintro e w2 ⟨xA, xa, xB, xb, rfl, r1, r2, -, hx⟩
      clear S_0 S_1 S_2
      have u1 := r1.sl; have u2 := r2.sl; clear r1 r2
      replace S := S.ext hx; replace hb := ext_trans hb hx; clear hx
      go_upto_region 5 with fail
      obtain ⟨X2, hX⟩ : ∃ W, W = w2.alloc (.cells #[.int .i64 t, .slice xA xs.length xa, .slice xB zs.length xb] 25) := ⟨_, rfl⟩
      rw [← hX]
      have O : Hs X2 w2.heap.size t xA xa xs xB xb zs := by rw [hX]; exact hs_new w2 u1 u2
      have hx : Below w2.heap.size w2 X2 := by rw [hX]; exact ext_alloc (Below.refl _ _) _
      clear hX
      replace S := S.ext hx; replace hb := ext_trans hb hx; clear hx
      clear u1 u2
      have S_0 := S.bx.c0; have S_1 := S.bx.c1; have S_2 := S.bx.c2
      go_wp2_with fail
      refine (G2.out _ _ _ _ _ S.sx S.sy).mono ?_
      rintro e w3 ⟨yA, ya, yB, yb, rfl, r1, r2, -, hx⟩
      clear S_0 S_1 S_2
      have u1 := r1.sl; have u2 := r2.sl; clear r1 r2
      replace S := S.ext hx; replace O := O.ext hx; replace hb := ext_trans hb hx; clear hx
      go_upto_region 6 with fail
      obtain ⟨X3, hX⟩ : ∃ W, W = w3.alloc (.cells #[.int .i64 t, .slice yA xs.length ya, .slice yB zs.length yb] 25) := ⟨_, rfl⟩
      rw [← hX]
      have K : Hs X3 w3.heap.size t yA ya xs yB yb zs := by rw [hX]; exact hs_new w3 u1 u2
      have hx : Below w3.heap.size w3 X3 := by rw [hX]; exact ext_alloc (Below.refl _ _) _
      clear hX
      replace S := S.ext hx; replace O := O.ext hx; replace hb := ext_trans hb hx; clear hx
      clear u1 u2
      have O_0 := O.bx.c0
      have O_1 := O.bx.c1
      have O_2 := O.bx.c2
      have K_0 := K.bx.c0
      have K_1 := K.bx.c1
      have K_2 := K.bx.c2
      go_wp2_with fail
      refine (equalSh_same t _ _ xs _ _ zs _ _ _ _ _ O.sx O.sy K.sx K.sy).mono ?_
      rintro e w4 ⟨rfl, hx⟩
      clear O_0 O_1 O_2 K_0 K_1 K_2
      replace S := S.ext hx; replace O := O.ext hx; replace K := K.ext hx; replace hb := ext_trans hb hx; clear hx
      have hno := NO_one t xs ys o
      rw [ho] at hno
      have gno : (NO t xs ys [o] == 0) = true := hno
      clear ho hno
      go_upto_region 8 with fail
      have S_0 := S.bx.c0; have S_1 := S.bx.c1; have S_2 := S.bx.c2
      have hx0 : Below w4.heap.size w4 (w4.alloc (.cells #[.int .i64 o] 3)) := ext_alloc (Below.refl _ _) _
      have sl1 : SlI (w4.alloc (.cells #[.int .i64 o] 3)) (some ⟨w4.heap.size, 0, none⟩) 1 [o] := slI_made w4 3 [o] (by simp)
      have sx := S.sx.ext hx0; have sy := S.sy.ext hx0
      go_wp2_with fail
      refine (no_any t P p xs Q q ys (some ⟨w4.heap.size, 0, none⟩) 1 [o] _ sx sy sl1).mono ?_
      rintro e wz ⟨rfl, hx⟩
      have FIN := hd (ext_trans (ext_trans hb hx0) hx)
      clear S O K hb hx hx0 sl1 sx sy S_0 S_1 S_2
      go_wp2
      go_ret
      exact ⟨rfl, FIN.out⟩
end Go.Proofs.Ytiaianjnelgpiaa
