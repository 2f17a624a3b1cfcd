/- The walk of laws.FnValidShare. -/
import Derived.Test.YtiaianjnelgpiaaWSv
import Derived.Test.YtiaianjnelgpiaaDrN
import Derived.Test.YtiaianjnelgpiaaPSl
namespace Go.Proofs.Ytiaianjnelgpiaa
open Go.RowKit
set_option maxRecDepth 100000 in
set_option maxHeartbeats 4000000 in
theorem lawValidShare (A : Option Addr) (n c : Nat) (w : World) (h : SlB w A n c) :
    Calls Try.prog 3 #[.slice A n c] w fun e w' => e = .returned (.bool true) ∧ Below w.heap.size w w' := by
  have hmax := h.2.1
  have hcap := h.1
  unfold maxLen at hmax
  by_cases hn : 1048576 < n
  · go_enter Try.func3, Try.ntmps3
    go_wp2
    go_ret
    exact ⟨rfl, Below.refl _ _⟩
  · go_enter Try.func3, Try.ntmps3
    go_wp2_with fail
    refine (drawValidShare_any A n c w h).mono ?_
    rintro e w1 ⟨t, P, p, xs, Q, q, ys, rfl, t0, t1, sP, sQ, l1, l2, hb, -, -⟩
    clear h
    go_upto_region 4 with fail
    obtain ⟨X1, hX⟩ : ∃ W, W = w1.alloc (.cells #[.int .i64 t, .slice P xs.length p, .slice Q ys.length q] 25) := ⟨_, rfl⟩
    rw [← hX]
    have S : Hs X1 w1.heap.size t P p xs Q q ys := by rw [hX]; exact hs_new w1 sP sQ
    have hx : Below w1.heap.size w1 X1 := by rw [hX]; exact ext_alloc (Below.refl _ _) _
    clear hX
    replace hb := ext_trans hb hx; clear hx
    clear sP sQ
    cases hv : VSh t xs ys with
    | false =>
      have V1 : Hid (∀ W A B c d, SlI W A c xs → SlI W B d ys → Calls Try.prog 12 #[.agg #[.int .i64 t, .slice A xs.length c, .slice B ys.length d]] W (fun e w' => e = .returned (.bool false) ∧ Below W.heap.size W w')) := hd (fun W A B c d s s' => by have := vsh_any t A c xs B d ys W s s'; rwa [hv] at this)
      have V2 : Hid (∀ W A B c d, SlI W A c xs → SlI W B d ys → Calls Try.prog 13 #[.agg #[.int .i64 t, .slice A xs.length c, .slice B ys.length d]] W (fun e w' => e = .returned (.bool false) ∧ Below W.heap.size W w')) := hd (fun W A B c d s s' => by have := spvs_any t A c xs B d ys W s s'; rwa [hv] at this)
      clear hv
      have S_0 := S.bx.c0; have S_1 := S.bx.c1; have S_2 := S.bx.c2
      go_wp2_with fail
      refine (V1.out _ _ _ _ _ S.sx S.sy).mono ?_
      rintro e w2 ⟨rfl, hx⟩
      clear S_0 S_1 S_2
      replace S := S.ext hx; replace hb := ext_trans hb hx; clear hx
      have S_0 := S.bx.c0; have S_1 := S.bx.c1; have S_2 := S.bx.c2
      go_wp2_with fail
      refine (V2.out _ _ _ _ _ S.sx S.sy).mono ?_
      rintro e w3 ⟨rfl, hx⟩
      clear S_0 S_1 S_2
      replace S := S.ext hx; replace hb := ext_trans hb hx; clear hx
      have S_0 := S.bx.c0; have S_1 := S.bx.c1; have S_2 := S.bx.c2
      go_wp2_with fail
      refine (V2.out _ _ _ _ _ S.sx S.sy).mono ?_
      rintro e w4 ⟨rfl, hx⟩
      clear S_0 S_1 S_2
      replace S := S.ext hx; replace hb := ext_trans hb hx; clear hx
      have FIN := hd hb
      clear hb
      go_wp2
      go_ret
      exact ⟨rfl, FIN.out⟩
    | true =>
      have V1 : Hid (∀ W A B c d, SlI W A c xs → SlI W B d ys → Calls Try.prog 12 #[.agg #[.int .i64 t, .slice A xs.length c, .slice B ys.length d]] W (fun e w' => e = .returned (.bool true) ∧ Below W.heap.size W w')) := hd (fun W A B c d s s' => by have := vsh_any t A c xs B d ys W s s'; rwa [hv] at this)
      have V2 : Hid (∀ W A B c d, SlI W A c xs → SlI W B d ys → Calls Try.prog 13 #[.agg #[.int .i64 t, .slice A xs.length c, .slice B ys.length d]] W (fun e w' => e = .returned (.bool true) ∧ Below W.heap.size W w')) := hd (fun W A B c d s s' => by have := spvs_any t A c xs B d ys W s s'; rwa [hv] at this)
      obtain ⟨lY, -, -⟩ := valid_len hv
      have HVV := hd (valid_sums hv)
      have hle := (valid_iff.1 hv).sm
      have gle : decide (ys.sum ≤ t) = true := decide_eq_true hle
      have HVT := hd hv
      clear hv hle
      have S_0 := S.bx.c0; have S_1 := S.bx.c1; have S_2 := S.bx.c2
      go_wp2_with fail
      refine (V1.out _ _ _ _ _ S.sx S.sy).mono ?_
      rintro e w2 ⟨rfl, hx⟩
      clear S_0 S_1 S_2
      replace S := S.ext hx; replace hb := ext_trans hb hx; clear hx
      have S_0 := S.bx.c0; have S_1 := S.bx.c1; have S_2 := S.bx.c2
      go_wp2_with fail
      refine (V2.out _ _ _ _ _ S.sx S.sy).mono ?_
      rintro e w3 ⟨rfl, hx⟩
      clear S_0 S_1 S_2
      replace S := S.ext hx; replace hb := ext_trans hb hx; clear hx
      go_upto_region 7 with fail
      have hx0 : Below w3.heap.size w3 (w3.alloc (.cells #[.int .i64 0, .int .i64 0, .int .i64 0, .int .i64 0, .int .i64 0] 3)).drew := ext_drew (ext_alloc (Below.refl _ _) _)
      have sl0 : SlI (w3.alloc (.cells #[.int .i64 0, .int .i64 0, .int .i64 0, .int .i64 0, .int .i64 0] 3)).drew (some ⟨w3.heap.size, 0, none⟩) 5 [0, 0, 0, 0, 0] := slI_made w3 3 [0, 0, 0, 0, 0] (by decide)
      have VZ : Hid (Calls Try.prog 12 #[.agg #[.int .i64 t, .slice P xs.length p, .slice (some ⟨w3.heap.size, 0, none⟩) 5 5]] (w3.alloc (.cells #[.int .i64 0, .int .i64 0, .int .i64 0, .int .i64 0, .int .i64 0] 3)).drew (fun e w' => e = .returned (.bool true) ∧ Below w3.heap.size w3 w')) := hd (by have := vsh_any t P p xs (some ⟨w3.heap.size, 0, none⟩) 5 [0, 0, 0, 0, 0] _ (S.sx.ext hx0) sl0; rw [zero_valid HVT.out] at this; exact this.mono fun _ _ h => ⟨h.1, hx0.trans (h.2.mono hx0.size)⟩)
      have S_0 := S.bx.c0; have S_1 := S.bx.c1; have S_2 := S.bx.c2
      have HS := hd (And.intro S hb)
      clear S hb hx0 sl0 V1 V2 HVT
      go_region_held3 (fun W => W.cell? ⟨w1.heap.size, 0, none⟩ = some (.int .i64 t) ∧ W.cell? ⟨w1.heap.size, 1, none⟩ = some (.slice P xs.length p) ∧ W.cell? ⟨w1.heap.size, 2, none⟩ = some (.slice Q ys.length q)) (go_keep)
        (first
          | (go_at_call 12; (with_reducible refine VZ.out.mono ?_); rintro e wA ⟨rfl, hx⟩; have SA := HS.out.1.ext hx; have d0 := SA.bx.c0; have d1 := SA.bx.c1; have d2 := SA.bx.c2; have sY := SA.sy; have FIN := hd (ext_trans HS.out.2 hx); clear hx SA)
          | (go_at_call 14; (with_reducible refine (lsum_any Q q ys _ sY lY HVV.out).mono ?_); rintro e wB ⟨rfl, rfl⟩)
          | fail)
      all_goals (go_wp2; go_ret; exact ⟨rfl, FIN.out⟩)
end Go.Proofs.Ytiaianjnelgpiaa
