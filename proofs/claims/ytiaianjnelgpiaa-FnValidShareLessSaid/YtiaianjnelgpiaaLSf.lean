/- The walk of laws.FnValidShareLess. -/
import Derived.Test.YtiaianjnelgpiaaWSv
import Derived.Test.YtiaianjnelgpiaaWSn
import Derived.Test.YtiaianjnelgpiaaDrN
import Derived.Test.YtiaianjnelgpiaaPSl
namespace Go.Proofs.Ytiaianjnelgpiaa
open Go.RowKit
set_option maxRecDepth 100000 in
set_option maxHeartbeats 4000000 in
theorem lawValidShareLess (A : Option Addr) (n c : Nat) (w : World) (h : SlB w A n c) :
    Calls Try.prog 4 #[.slice A n c] w fun e w' => e = .returned (.bool true) ∧ Below w.heap.size w w' := by
  have hmax := h.2.1
  have hcap := h.1
  unfold maxLen at hmax
  by_cases hn : 1048576 < n
  · go_enter Try.func4, Try.ntmps4
    go_wp2
    go_ret
    exact ⟨rfl, Below.refl _ _⟩
  · go_enter Try.func4, Try.ntmps4
    go_wp2_with fail
    refine (drawValidShare_any A n c w h).mono ?_
    rintro e w1 ⟨t, P, p, xs, Q, q, ys, rfl, t0, t1, sP, sQ, l1, l2, hb, -, -⟩
    clear h
    go_upto_region 4 with fail
    obtain ⟨X1, hX⟩ : ∃ W, W = w1.alloc (.cells #[.int .i64 t, .slice P xs.length p, .slice Q ys.length q] 25) := ⟨_, rfl⟩
    rw [← hX]
    have S : Hs X1 w1.heap.size t P p xs Q q ys := by rw [hX]; exact hs_new w1 sP sQ
    have hx : Below w1.heap.size w1 X1 := by rw [hX]; exact ext_alloc (Below.refl _ _) _
    clear hX
    replace hb := ext_trans hb hx; clear hx
    clear sP sQ
    cases hv : VSh t xs ys with
    | false =>
      have V1 : Hid (∀ W A B c d, SlI W A c xs → SlI W B d ys → Calls Try.prog 12 #[.agg #[.int .i64 t, .slice A xs.length c, .slice B ys.length d]] W (fun e w' => e = .returned (.bool false) ∧ Below W.heap.size W w')) := hd (fun W A B c d s s' => by have := vsh_any t A c xs B d ys W s s'; rwa [hv] at this)
      have V2 : Hid (∀ W A B c d, SlI W A c xs → SlI W B d ys → Calls Try.prog 13 #[.agg #[.int .i64 t, .slice A xs.length c, .slice B ys.length d]] W (fun e w' => e = .returned (.bool false) ∧ Below W.heap.size W w')) := hd (fun W A B c d s s' => by have := spvs_any t A c xs B d ys W s s'; rwa [hv] at this)
      clear hv
      have S_0 := S.bx.c0; have S_1 := S.bx.c1; have S_2 := S.bx.c2
      go_wp2_with fail
      refine (V1.out _ _ _ _ _ S.sx S.sy).mono ?_
      rintro e w2 ⟨rfl, hx⟩
      clear S_0 S_1 S_2
      replace S := S.ext hx; replace hb := ext_trans hb hx; clear hx
      have S_0 := S.bx.c0; have S_1 := S.bx.c1; have S_2 := S.bx.c2
      go_wp2_with fail
      refine (V2.out _ _ _ _ _ S.sx S.sy).mono ?_
      rintro e w3 ⟨rfl, hx⟩
      clear S_0 S_1 S_2
      replace S := S.ext hx; replace hb := ext_trans hb hx; clear hx
      have S_0 := S.bx.c0; have S_1 := S.bx.c1; have S_2 := S.bx.c2
      go_wp2_with fail
      refine (V2.out _ _ _ _ _ S.sx S.sy).mono ?_
      rintro e w4 ⟨rfl, hx⟩
      clear S_0 S_1 S_2
      replace S := S.ext hx; replace hb := ext_trans hb hx; clear hx
      have FIN := hd hb
      clear hb
      go_wp2
      go_ret
      exact ⟨rfl, FIN.out⟩
    | true =>
      have V1 : Hid (∀ W A B c d, SlI W A c xs → SlI W B d ys → Calls Try.prog 12 #[.agg #[.int .i64 t, .slice A xs.length c, .slice B ys.length d]] W (fun e w' => e = .returned (.bool true) ∧ Below W.heap.size W w')) := hd (fun W A B c d s s' => by have := vsh_any t A c xs B d ys W s s'; rwa [hv] at this)
      have V2 : Hid (∀ W A B c d, SlI W A c xs → SlI W B d ys → Calls Try.prog 13 #[.agg #[.int .i64 t, .slice A xs.length c, .slice B ys.length d]] W (fun e w' => e = .returned (.bool true) ∧ Below W.heap.size W w')) := hd (fun W A B c d s s' => by have := spvs_any t A c xs B d ys W s s'; rwa [hv] at this)
      obtain ⟨-, lY5, -⟩ := valid_len hv
      have HV := hd hv
      clear hv
      have S_0 := S.bx.c0; have S_1 := S.bx.c1; have S_2 := S.bx.c2
      go_wp2_with fail
      refine (V1.out _ _ _ _ _ S.sx S.sy).mono ?_
      rintro e w2 ⟨rfl, hx⟩
      clear S_0 S_1 S_2
      replace S := S.ext hx; replace hb := ext_trans hb hx; clear hx
      have S_0 := S.bx.c0; have S_1 := S.bx.c1; have S_2 := S.bx.c2
      go_wp2_with fail
      refine (V2.out _ _ _ _ _ S.sx S.sy).mono ?_
      rintro e w3 ⟨rfl, hx⟩
      clear S_0 S_1 S_2
      replace S := S.ext hx; replace hb := ext_trans hb hx; clear hx
      clear V1 V2
      obtain ⟨G, hG⟩ : ∃ G, G = w1.heap.size := ⟨_, rfl⟩
      rw [← hG] at S ⊢
      clear hG
      go_wp2_with fail
      go_loopw [5, 6, 7] (fun i _ _ wr => ∃ k : Nat, k ≤ 5 ∧ i = .int .i64 k ∧ Hs wr G t P p xs Q q ys ∧ Below w.heap.size w wr) (fun i _ _ _ => 5 - (intOf i).toNat)
      case atStart => exact ⟨0, by omega, rfl, S, hb⟩
      case round =>
        clear S hb
        obtain ⟨k, hk, rfl, S, hb⟩ := hrel
        by_cases hlt : k < 5
        · have hky : k < ys.length := by omega
          obtain ⟨ad, rfl, -, -⟩ := SlI.at S.sy hky
          have e0 := AD_take HV.out hlt
          by_cases h0 : at0 ys k = 0
          · rw [if_pos h0] at e0
            have g0 : decide ((0 : Int) < at0 ys k) = false := decide_eq_false (by omega)
            have TK : Hid (∀ W A B c d, SlI W A c xs → SlI W B d ys → Calls Try.prog 15 #[.agg #[.int .i64 t, .slice A xs.length c, .slice B ys.length d], .int .i64 (k : Int)] W (ShO (none) t xs W)) := hd (fun W A B c d s s' => by have := tk_any t A c xs B d ys (k : Int) W s s'; rwa [e0] at this)
            clear e0 h0
            have S_0 := S.bx.c0; have S_1 := S.bx.c1; have S_2 := S.bx.c2
            go_wp2_with fail
            refine (TK.out _ _ _ _ _ S.sx S.sy).mono ?_
            rintro e w4 ⟨rfl, hx⟩
            clear S_0 S_1 S_2
            replace S := S.ext hx; replace hb := ext_trans hb hx; clear hx
            go_upto_region 11 with fail
            have S_0 := S.bx.c0; have S_1 := S.bx.c1; have S_2 := S.bx.c2
            have a0 := SlI.atN S.sy hky
            have HS := hd (And.intro S hb)
            obtain ⟨X, hX⟩ : ∃ X, X = w4.alloc (.cells #[.int .i64 0, .slice none 0 0, .slice none 0 0] 25) := ⟨_, rfl⟩
            rw [← hX]
            have hx : Below w4.heap.size w4 X := by rw [hX]; exact ext_alloc (Below.refl _ _) _
            clear hX a0 HS
            clear S_0 S_1 S_2
            replace S := S.ext hx; replace hb := ext_trans hb hx; clear hx
            have S_0 := S.bx.c0; have S_1 := S.bx.c1; have S_2 := S.bx.c2
            have a0 := SlI.atN S.sy hky
            go_wp2_with fail
            go_roundw
            case rel => exact ⟨k + 1, by omega, by go_num, S, hb⟩
            case measure => simp [intOf]; omega
          · rw [if_neg h0] at e0
            have hyk := (valid_iff.1 HV.out).my k hlt
            have g0 : decide ((0 : Int) < at0 ys k) = true := decide_eq_true (by omega)
            have hz := (take_valid HV.out hlt).2 h0
            obtain ⟨zs, hzs⟩ : ∃ zs, zs = chg ys k (-1) := ⟨_, rfl⟩
            rw [← hzs] at e0 hz
            clear hzs hyk
            have TK : Hid (∀ W A B c d, SlI W A c xs → SlI W B d ys → Calls Try.prog 15 #[.agg #[.int .i64 t, .slice A xs.length c, .slice B ys.length d], .int .i64 (k : Int)] W (ShO (some zs) t xs W)) := hd (fun W A B c d s s' => by have := tk_any t A c xs B d ys (k : Int) W s s'; rwa [e0] at this)
            have V3 : Hid (∀ W A B c d, SlI W A c xs → SlI W B d zs → Calls Try.prog 12 #[.agg #[.int .i64 t, .slice A xs.length c, .slice B zs.length d]] W (fun e w' => e = .returned (.bool true) ∧ Below W.heap.size W w')) := hd (fun W A B c d s s' => by have := vsh_any t A c xs B d zs W s s'; rwa [hz] at this)
            clear e0 h0 hz
            have S_0 := S.bx.c0; have S_1 := S.bx.c1; have S_2 := S.bx.c2
            go_wp2_with fail
            refine (TK.out _ _ _ _ _ S.sx S.sy).mono ?_
            rintro e w4 ⟨A1, a1, B1, b1, rfl, r1, r2, -, hx⟩
            clear S_0 S_1 S_2
            have u1 := r1.sl; have u2 := r2.sl; clear r1 r2
            replace S := S.ext hx; replace hb := ext_trans hb hx; clear hx
            go_upto_region 11 with fail
            obtain ⟨X4, hX⟩ : ∃ W, W = w4.alloc (.cells #[.int .i64 t, .slice A1 xs.length a1, .slice B1 zs.length b1] 25) := ⟨_, rfl⟩
            rw [← hX]
            have L : Hs X4 w4.heap.size t A1 a1 xs B1 b1 zs := by rw [hX]; exact hs_new w4 u1 u2
            have hx : Below w4.heap.size w4 X4 := by rw [hX]; exact ext_alloc (Below.refl _ _) _
            clear hX
            replace S := S.ext hx; replace hb := ext_trans hb hx; clear hx
            clear u1 u2
            have a0 := SlI.atN S.sy hky
            have S_0 := S.bx.c0; have S_1 := S.bx.c1; have S_2 := S.bx.c2; have L_0 := L.bx.c0; have L_1 := L.bx.c1; have L_2 := L.bx.c2
            go_wp2_with fail
            refine (V3.out _ _ _ _ _ L.sx L.sy).mono ?_
            rintro e w5 ⟨rfl, hx⟩
            clear S_0 S_1 S_2 L_0 L_1 L_2
            clear a0
            replace S := S.ext hx; replace L := L.ext hx; replace hb := ext_trans hb hx; clear hx
            go_wp2_with fail
            go_roundw
            case rel => exact ⟨k + 1, by omega, by go_num, S, hb⟩
            case measure => simp [intOf]; omega
        · obtain rfl : k = 5 := by omega
          have FIN := hd hb
          clear S hb
          go_wp2
          go_ret
          exact ⟨rfl, FIN.out⟩
end Go.Proofs.Ytiaianjnelgpiaa
