/- The walk of laws.FnGiveShareNone. -/
import Derived.Test.YtiaianjnelgpiaaWSv
import Derived.Test.YtiaianjnelgpiaaWSe
import Derived.Test.YtiaianjnelgpiaaWSn
import Derived.Test.YtiaianjnelgpiaaDrN
import Derived.Test.YtiaianjnelgpiaaPSl
namespace Go.Proofs.Ytiaianjnelgpiaa
open Go.RowKit
set_option maxRecDepth 100000 in
set_option maxHeartbeats 4000000 in
theorem lawGiveShareNone (A : Option Addr) (n c : Nat) (w : World) (h : SlB w A n c) :
    Calls Try.prog 5 #[.slice A n c] w fun e w' => e = .returned (.bool true) ∧ Below w.heap.size w w' := by
  have hmax := h.2.1
  have hcap := h.1
  unfold maxLen at hmax
  by_cases hn : 1048576 < n
  · go_enter Try.func5, Try.ntmps5
    go_wp2
    go_ret
    exact ⟨rfl, Below.refl _ _⟩
  · go_enter Try.func5, Try.ntmps5
    go_wp2_with fail
    refine (drawGiveShare_any A n c w h).mono ?_
    rintro e w1 ⟨t, P, p, xs, Q, q, ys, o, rfl, t0, t1, sP, sQ, l1, l2, o0, o1, hb, -, -⟩
    clear h
    go_upto_region 4 with fail
    obtain ⟨X1, hX⟩ : ∃ W, W = w1.alloc (.cells #[.int .i64 t, .slice P xs.length p, .slice Q ys.length q] 25) := ⟨_, rfl⟩
    rw [← hX]
    have S : Hs X1 w1.heap.size t P p xs Q q ys := by rw [hX]; exact hs_new w1 sP sQ
    have hx : Below w1.heap.size w1 X1 := by rw [hX]; exact ext_alloc (Below.refl _ _) _
    clear hX
    replace hb := ext_trans hb hx; clear hx
    clear sP sQ
    cases ho : AD t xs ys o 1 with
    | none =>
      have G1 : Hid (∀ W A B c d, SlI W A c xs → SlI W B d ys → Calls Try.prog 17 #[.agg #[.int .i64 t, .slice A xs.length c, .slice B ys.length d], .int .i64 o] W (ShO (none) t xs W)) := hd (fun W A B c d s s' => by have := gv_any t A c xs B d ys o W s s'; rwa [ho] at this)
      have G2 : Hid (∀ W A B c d, SlI W A c xs → SlI W B d ys → Calls Try.prog 18 #[.agg #[.int .i64 t, .slice A xs.length c, .slice B ys.length d], .int .i64 o] W (ShO (none) t xs W)) := hd (fun W A B c d s s' => by have := sgv_any t A c xs B d ys o W s s'; rwa [ho] at this)
      have S_0 := S.bx.c0; have S_1 := S.bx.c1; have S_2 := S.bx.c2
      go_wp2_with fail
      refine (G1.out _ _ _ _ _ S.sx S.sy).mono ?_
      rintro e w2 ⟨rfl, hx⟩
      clear S_0 S_1 S_2
      replace S := S.ext hx; replace hb := ext_trans hb hx; clear hx
      go_upto_region 5 with fail
      obtain ⟨X2, hX⟩ : ∃ W, W = w2.alloc (.cells #[.int .i64 0, .slice none 0 0, .slice none 0 0] 25) := ⟨_, rfl⟩
      rw [← hX]
      have O : Hs X2 w2.heap.size 0 none 0 [] none 0 [] := by rw [hX]; exact hs_new w2 (slI_nil _) (slI_nil _)
      have hx : Below w2.heap.size w2 X2 := by rw [hX]; exact ext_alloc (Below.refl _ _) _
      clear hX
      replace S := S.ext hx; replace hb := ext_trans hb hx; clear hx
      have S_0 := S.bx.c0; have S_1 := S.bx.c1; have S_2 := S.bx.c2
      go_wp2_with fail
      refine (G2.out _ _ _ _ _ S.sx S.sy).mono ?_
      rintro e w3 ⟨rfl, hx⟩
      clear S_0 S_1 S_2
      replace S := S.ext hx; replace O := O.ext hx; replace hb := ext_trans hb hx; clear hx
      go_upto_region 6 with fail
      obtain ⟨X3, hX⟩ : ∃ W, W = w3.alloc (.cells #[.int .i64 0, .slice none 0 0, .slice none 0 0] 25) := ⟨_, rfl⟩
      rw [← hX]
      have K : Hs X3 w3.heap.size 0 none 0 [] none 0 [] := by rw [hX]; exact hs_new w3 (slI_nil _) (slI_nil _)
      have hx : Below w3.heap.size w3 X3 := by rw [hX]; exact ext_alloc (Below.refl _ _) _
      clear hX
      replace S := S.ext hx; replace O := O.ext hx; replace hb := ext_trans hb hx; clear hx
      have O_0 := O.bx.c0
      have O_1 := (show _ = some (Value.slice none 0 0) from O.bx.c1)
      have O_2 := (show _ = some (Value.slice none 0 0) from O.bx.c2)
      have K_0 := K.bx.c0
      have K_1 := (show _ = some (Value.slice none 0 0) from K.bx.c1)
      have K_2 := (show _ = some (Value.slice none 0 0) from K.bx.c2)
      go_wp2_with fail
      refine (equalSh_same 0 _ _ [] _ _ [] _ _ _ _ _ O.sx O.sy K.sx K.sy).mono ?_
      rintro e w4 ⟨rfl, hx⟩
      clear O_0 O_1 O_2 K_0 K_1 K_2
      replace S := S.ext hx; replace O := O.ext hx; replace K := K.ext hx; replace hb := ext_trans hb hx; clear hx
      cases hv : VSh t xs ys with
      | false =>
        have V1 : Hid (∀ W A B c d, SlI W A c xs → SlI W B d ys → Calls Try.prog 12 #[.agg #[.int .i64 t, .slice A xs.length c, .slice B ys.length d]] W (fun e w' => e = .returned (.bool false) ∧ Below W.heap.size W w')) := hd (fun W A B c d s s' => by have := vsh_any t A c xs B d ys W s s'; rwa [hv] at this)
        clear hv ho
        have S_0 := S.bx.c0; have S_1 := S.bx.c1; have S_2 := S.bx.c2
        go_wp2_with fail
        refine (V1.out _ _ _ _ _ S.sx S.sy).mono ?_
        rintro e w5 ⟨rfl, hx⟩
        clear S_0 S_1 S_2
        replace S := S.ext hx; replace O := O.ext hx; replace K := K.ext hx; replace hb := ext_trans hb hx; clear hx
        have O_0 := O.bx.c0
        have O_1 := (show _ = some (Value.slice none 0 0) from O.bx.c1)
        have O_2 := (show _ = some (Value.slice none 0 0) from O.bx.c2)
        have K_0 := K.bx.c0
        have K_1 := (show _ = some (Value.slice none 0 0) from K.bx.c1)
        have K_2 := (show _ = some (Value.slice none 0 0) from K.bx.c2)
        go_wp2_with fail
        refine (equalSh_same 0 _ _ [] _ _ [] _ _ _ _ _ O.sx O.sy K.sx K.sy).mono ?_
        rintro e w6 ⟨rfl, hx⟩
        clear O_0 O_1 O_2 K_0 K_1 K_2
        replace S := S.ext hx; replace O := O.ext hx; replace K := K.ext hx; replace hb := ext_trans hb hx; clear hx
        have FIN := hd hb
        clear hb
        go_wp2
        go_ret
        exact ⟨rfl, FIN.out⟩
      | true =>
        have V1 : Hid (∀ W A B c d, SlI W A c xs → SlI W B d ys → Calls Try.prog 12 #[.agg #[.int .i64 t, .slice A xs.length c, .slice B ys.length d]] W (fun e w' => e = .returned (.bool true) ∧ Below W.heap.size W w')) := hd (fun W A B c d s s' => by have := vsh_any t A c xs B d ys W s s'; rwa [hv] at this)
        by_cases c0 : o < 0
        · have g0 : decide (o < 0) = true := decide_eq_true c0
          clear hv ho c0
          have S_0 := S.bx.c0; have S_1 := S.bx.c1; have S_2 := S.bx.c2
          go_wp2_with fail
          refine (V1.out _ _ _ _ _ S.sx S.sy).mono ?_
          rintro e w5 ⟨rfl, hx⟩
          clear S_0 S_1 S_2
          replace S := S.ext hx; replace O := O.ext hx; replace K := K.ext hx; replace hb := ext_trans hb hx; clear hx
          have O_0 := O.bx.c0
          have O_1 := (show _ = some (Value.slice none 0 0) from O.bx.c1)
          have O_2 := (show _ = some (Value.slice none 0 0) from O.bx.c2)
          have K_0 := K.bx.c0
          have K_1 := (show _ = some (Value.slice none 0 0) from K.bx.c1)
          have K_2 := (show _ = some (Value.slice none 0 0) from K.bx.c2)
          go_wp2_with fail
          refine (equalSh_same 0 _ _ [] _ _ [] _ _ _ _ _ O.sx O.sy K.sx K.sy).mono ?_
          rintro e w6 ⟨rfl, hx⟩
          clear O_0 O_1 O_2 K_0 K_1 K_2
          replace S := S.ext hx; replace O := O.ext hx; replace K := K.ext hx; replace hb := ext_trans hb hx; clear hx
          have FIN := hd hb
          clear hb
          go_wp2
          go_ret
          exact ⟨rfl, FIN.out⟩
        · have g0 : decide (o < 0) = false := decide_eq_false c0
          by_cases c5 : 5 ≤ o
          · have g5 : decide ((5 : Int) ≤ o) = true := decide_eq_true c5
            clear hv ho c0 c5
            have S_0 := S.bx.c0; have S_1 := S.bx.c1; have S_2 := S.bx.c2
            go_wp2_with fail
            refine (V1.out _ _ _ _ _ S.sx S.sy).mono ?_
            rintro e w5 ⟨rfl, hx⟩
            clear S_0 S_1 S_2
            replace S := S.ext hx; replace O := O.ext hx; replace K := K.ext hx; replace hb := ext_trans hb hx; clear hx
            have O_0 := O.bx.c0
            have O_1 := (show _ = some (Value.slice none 0 0) from O.bx.c1)
            have O_2 := (show _ = some (Value.slice none 0 0) from O.bx.c2)
            have K_0 := K.bx.c0
            have K_1 := (show _ = some (Value.slice none 0 0) from K.bx.c1)
            have K_2 := (show _ = some (Value.slice none 0 0) from K.bx.c2)
            go_wp2_with fail
            refine (equalSh_same 0 _ _ [] _ _ [] _ _ _ _ _ O.sx O.sy K.sx K.sy).mono ?_
            rintro e w6 ⟨rfl, hx⟩
            clear O_0 O_1 O_2 K_0 K_1 K_2
            replace S := S.ext hx; replace O := O.ext hx; replace K := K.ext hx; replace hb := ext_trans hb hx; clear hx
            have FIN := hd hb
            clear hb
            go_wp2
            go_ret
            exact ⟨rfl, FIN.out⟩
          · have g5 : decide ((5 : Int) ≤ o) = false := decide_eq_false c5
            obtain ⟨i, rfl⟩ : ∃ i : Nat, o = (i : Int) := ⟨o.toNat, by omega⟩
            have hi5 : i < 5 := by omega
            have hd := AD_give hv hi5
            rw [ho] at hd
            have hno : ¬ (at0 ys i < at0 xs i ∧ ys.sum < t) := fun h => by rw [if_pos h] at hd; cases hd
            clear hd
            obtain ⟨lY, lY5, lX5⟩ := valid_len hv
            have HVV := _root_.Go.Proofs.Ytiaianjnelgpiaa.hd (valid_sums hv)
            have hiy : i < ys.length := by omega
            have hix : i < xs.length := by omega
            obtain ⟨sm, hsm⟩ : ∃ sm, sm = ys.sum := ⟨_, rfl⟩
            have SM := _root_.Go.Proofs.Ytiaianjnelgpiaa.hd (fun W A c (s : SlI W A c ys) => by have := lsum_q A c ys W s lY HVV.out; rwa [← hsm] at this)
            rw [← hsm] at hno
            clear hsm hv ho
            have S_0 := S.bx.c0; have S_1 := S.bx.c1; have S_2 := S.bx.c2
            go_wp2_with fail
            refine (V1.out _ _ _ _ _ S.sx S.sy).mono ?_
            rintro e w5 ⟨rfl, hx⟩
            clear S_0 S_1 S_2
            replace S := S.ext hx; replace O := O.ext hx; replace K := K.ext hx; replace hb := ext_trans hb hx; clear hx
            go_upto_region 8 with fail
            obtain ⟨adx, rfl, -, -⟩ := SlI.at S.sx hix
            obtain ⟨ady, rfl, -, -⟩ := SlI.at S.sy hiy
            have x0 := SlI.atN S.sx hix
            have y0 := SlI.atN S.sy hiy
            have S_0 := S.bx.c0; have S_1 := S.bx.c1; have S_2 := S.bx.c2
            have sY := S.sy
            by_cases c1 : at0 ys i < at0 xs i
            · have g1 : decide (at0 ys i < at0 xs i) = true := decide_eq_true c1
              have g2 : decide (sm < t) = false := decide_eq_false (fun h => hno ⟨c1, h⟩)
              clear hno c1
              go_quiet ((go_at_call 14; exact Calls.quiet_of_same (SM.out _ _ _ sY)))
              go_wp2
              go_ret
              exact ⟨rfl, below_drewN hb _⟩
            · have g1 : decide (at0 ys i < at0 xs i) = false := decide_eq_false c1
              clear hno c1
              go_quiet ((go_at_call 14; exact Calls.quiet_of_same (SM.out _ _ _ sY)))
              go_wp2
              go_ret
              exact ⟨rfl, below_drewN hb _⟩
    | some zs =>
      have G1 : Hid (∀ W A B c d, SlI W A c xs → SlI W B d ys → Calls Try.prog 17 #[.agg #[.int .i64 t, .slice A xs.length c, .slice B ys.length d], .int .i64 o] W (ShO (some zs) t xs W)) := hd (fun W A B c d s s' => by have := gv_any t A c xs B d ys o W s s'; rwa [ho] at this)
      have G2 : Hid (∀ W A B c d, SlI W A c xs → SlI W B d ys → Calls Try.prog 18 #[.agg #[.int .i64 t, .slice A xs.length c, .slice B ys.length d], .int .i64 o] W (ShO (some zs) t xs W)) := hd (fun W A B c d s s' => by have := sgv_any t A c xs B d ys o W s s'; rwa [ho] at this)
      have S_0 := S.bx.c0; have S_1 := S.bx.c1; have S_2 := S.bx.c2
      go_wp2_with fail
      refine (G1.out _ _ _ _ _ S.sx S.sy).mono ?_
      rintro e w2 ⟨xA, xa, xB, xb, rfl, r1, r2, -, hx⟩
      clear S_0 S_1 S_2
      have u1 := r1.sl; have u2 := r2.sl; clear r1 r2
      replace S := S.ext hx; replace hb := ext_trans hb hx; clear hx
      go_upto_region 5 with fail
      obtain ⟨X2, hX⟩ : ∃ W, W = w2.alloc (.cells #[.int .i64 t, .slice xA xs.length xa, .slice xB zs.length xb] 25) := ⟨_, rfl⟩
      rw [← hX]
      have O : Hs X2 w2.heap.size t xA xa xs xB xb zs := by rw [hX]; exact hs_new w2 u1 u2
      have hx : Below w2.heap.size w2 X2 := by rw [hX]; exact ext_alloc (Below.refl _ _) _
      clear hX
      replace S := S.ext hx; replace hb := ext_trans hb hx; clear hx
      clear u1 u2
      have S_0 := S.bx.c0; have S_1 := S.bx.c1; have S_2 := S.bx.c2
      go_wp2_with fail
      refine (G2.out _ _ _ _ _ S.sx S.sy).mono ?_
      rintro e w3 ⟨yA, ya, yB, yb, rfl, r1, r2, -, hx⟩
      clear S_0 S_1 S_2
      have u1 := r1.sl; have u2 := r2.sl; clear r1 r2
      replace S := S.ext hx; replace O := O.ext hx; replace hb := ext_trans hb hx; clear hx
      go_upto_region 6 with fail
      obtain ⟨X3, hX⟩ : ∃ W, W = w3.alloc (.cells #[.int .i64 t, .slice yA xs.length ya, .slice yB zs.length yb] 25) := ⟨_, rfl⟩
      rw [← hX]
      have K : Hs X3 w3.heap.size t yA ya xs yB yb zs := by rw [hX]; exact hs_new w3 u1 u2
      have hx : Below w3.heap.size w3 X3 := by rw [hX]; exact ext_alloc (Below.refl _ _) _
      clear hX
      replace S := S.ext hx; replace O := O.ext hx; replace hb := ext_trans hb hx; clear hx
      clear u1 u2
      have O_0 := O.bx.c0
      have O_1 := O.bx.c1
      have O_2 := O.bx.c2
      have K_0 := K.bx.c0
      have K_1 := K.bx.c1
      have K_2 := K.bx.c2
      go_wp2_with fail
      refine (equalSh_same t _ _ xs _ _ zs _ _ _ _ _ O.sx O.sy K.sx K.sy).mono ?_
      rintro e w4 ⟨rfl, hx⟩
      clear O_0 O_1 O_2 K_0 K_1 K_2
      replace S := S.ext hx; replace O := O.ext hx; replace K := K.ext hx; replace hb := ext_trans hb hx; clear hx
      obtain ⟨i, rfl, hi5, hv, hz, hvz⟩ := AD_some ho
      have hyes := (give_valid hv hi5).1 (by rw [← hz]; exact hvz)
      clear hz hvz
      have V1 : Hid (∀ W A B c d, SlI W A c xs → SlI W B d ys → Calls Try.prog 12 #[.agg #[.int .i64 t, .slice A xs.length c, .slice B ys.length d]] W (fun e w' => e = .returned (.bool true) ∧ Below W.heap.size W w')) := hd (fun W A B c d s s' => by have := vsh_any t A c xs B d ys W s s'; rwa [hv] at this)
      have g0 : decide ((i : Int) < 0) = false := decide_eq_false (by omega)
      have g5 : decide ((5 : Int) ≤ (i : Int)) = false := decide_eq_false (by omega)
      obtain ⟨lY, lY5, lX5⟩ := valid_len hv
      have HVV := _root_.Go.Proofs.Ytiaianjnelgpiaa.hd (valid_sums hv)
      have hiy : i < ys.length := by omega
      have hix : i < xs.length := by omega
      obtain ⟨sm, hsm⟩ : ∃ sm, sm = ys.sum := ⟨_, rfl⟩
      have SM := _root_.Go.Proofs.Ytiaianjnelgpiaa.hd (fun W A c (s : SlI W A c ys) => by have := lsum_q A c ys W s lY HVV.out; rwa [← hsm] at this)
      rw [← hsm] at hyes
      clear hsm hv ho
      have S_0 := S.bx.c0; have S_1 := S.bx.c1; have S_2 := S.bx.c2
      go_wp2_with fail
      refine (V1.out _ _ _ _ _ S.sx S.sy).mono ?_
      rintro e w5 ⟨rfl, hx⟩
      clear S_0 S_1 S_2
      replace S := S.ext hx; replace O := O.ext hx; replace K := K.ext hx; replace hb := ext_trans hb hx; clear hx
      go_upto_region 8 with fail
      obtain ⟨adx, rfl, -, -⟩ := SlI.at S.sx hix
      obtain ⟨ady, rfl, -, -⟩ := SlI.at S.sy hiy
      have x0 := SlI.atN S.sx hix
      have y0 := SlI.atN S.sy hiy
      have S_0 := S.bx.c0; have S_1 := S.bx.c1; have S_2 := S.bx.c2
      have sY := S.sy
      have g1 : decide (at0 ys i < at0 xs i) = true := decide_eq_true hyes.1
      have g2 : decide (sm < t) = true := decide_eq_true hyes.2
      clear hyes
      go_quiet ((go_at_call 14; exact Calls.quiet_of_same (SM.out _ _ _ sY)))
      go_wp2
      go_ret
      exact ⟨rfl, below_drewN hb _⟩
end Go.Proofs.Ytiaianjnelgpiaa
