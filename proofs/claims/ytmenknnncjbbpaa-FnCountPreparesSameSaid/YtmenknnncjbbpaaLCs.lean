/- The walk of laws.FnCountPreparesSame. -/
import Derived.Test.YtmenknnncjbbpaaWCl
import Derived.Test.YtmenknnncjbbpaaWC7
import Derived.Test.YtmenknnncjbbpaaDrCn
namespace Go.Proofs.Ytmenknnncjbbpaa
open Go.RowKit
set_option maxRecDepth 100000 in
set_option maxHeartbeats 4000000 in
theorem lawCountPreparesSame (A : Option Addr) (n c : Nat) (w : World) (h : SlB w A n c) :
    Calls Try.prog 7 #[.slice A n c] w fun e w' => e = .returned (.bool true) ∧ Below w.heap.size w w' := by
  have hmax := h.2.1
  have hcap := h.1
  unfold maxLen at hmax
  by_cases hn : 1048576 < n
  · go_enter Try.func7, Try.ntmps7
    go_wp2
    go_ret
    exact ⟨rfl, Below.refl _ _⟩
  · go_enter Try.func7, Try.ntmps7
    go_wp2_with fail
    refine (drawCountPrepares_any A n c w h).mono ?_
    rintro e w1 ⟨r, P, p, xs, E, f, ns, rfl, rr0, rr1, sP, l1, sE, l2, hb⟩
    clear h
    go_upto_region 4 with fail
    obtain ⟨X1, hX⟩ : ∃ W, W = w1.alloc (.cells #[.int .i64 r, .slice P xs.length p] 31) := ⟨_, rfl⟩
    rw [← hX]
    have S : Hc X1 w1.heap.size r P p xs := by rw [hX]; exact hc_new w1 sP
    have hx : Below w1.heap.size w1 X1 := by rw [hX]; exact ext_alloc (Below.refl _ _) _
    clear hX
    replace sE := sE.ext hx; replace hb := ext_trans hb hx; clear hx
    clear sP
    obtain ⟨m, hm⟩ : ∃ m, CP r xs ns = m := ⟨_, rfl⟩
    have N1 : Hid (∀ W A C a c, SlI W A a xs → SlI W C c ns → Calls Try.prog 13 #[.agg #[.int .i64 r, .slice A xs.length a], .slice C ns.length c] W (fun e w' => e = .returned (.int .i64 m) ∧ Below W.heap.size W w')) := hd (fun W A C a c s sa => by have := cp_any r A a xs C c ns W s sa; rwa [hm] at this)
    have N2 : Hid (∀ W A C a c, SlI W A a xs → SlI W C c ns → Calls Try.prog 14 #[.agg #[.int .i64 r, .slice A xs.length a], .slice C ns.length c] W (fun e w' => e = .returned (.int .i64 m) ∧ Below W.heap.size W w')) := hd (fun W A C a c s sa => by have := scp_any r A a xs C c ns W s sa; rwa [hm] at this)
    have g1 : (m != m) = false := by simp
    have g2 : (m == m) = true := by simp
    by_cases hneg : m < 0
    · have g0 : decide (m < 0) = true := decide_eq_true hneg
      clear hneg hm
      have S_0 := S.bx.c0; have S_1 := S.bx.c1
      go_wp2_with fail
      refine (N1.out _ _ _ _ _ S.sx sE).mono ?_
      rintro e w2 ⟨rfl, hx⟩
      clear S_0 S_1
      replace sE := sE.ext hx; replace S := S.ext hx; replace hb := ext_trans hb hx; clear hx
      have S_0 := S.bx.c0; have S_1 := S.bx.c1
      go_wp2_with fail
      refine (N2.out _ _ _ _ _ S.sx sE).mono ?_
      rintro e w3 ⟨rfl, hx⟩
      clear S_0 S_1
      replace sE := sE.ext hx; replace S := S.ext hx; replace hb := ext_trans hb hx; clear hx
      have S_0 := S.bx.c0; have S_1 := S.bx.c1
      go_wp2_with fail
      refine (N2.out _ _ _ _ _ S.sx sE).mono ?_
      rintro e w4 ⟨rfl, hx⟩
      clear S_0 S_1
      replace sE := sE.ext hx; replace S := S.ext hx; replace hb := ext_trans hb hx; clear hx
      have FIN := hd hb
      clear hb
      go_wp2
      go_ret
      exact ⟨rfl, FIN.out⟩
    · have g0 : decide (m < 0) = false := decide_eq_false hneg
      have hge : 0 ≤ CP r xs ns := by omega
      clear hneg
      obtain ⟨hv, -, -, -⟩ := CP_valid hge
      have V0 := (validC_iff.1 hv).r0
      have V6 := (validC_iff.1 hv).r1
      by_cases h6 : r = 0
      · have g6 : (r == 0) = true := beq_iff_eq.2 h6
        clear h6 hv hge hm
        have S_0 := S.bx.c0; have S_1 := S.bx.c1
        go_wp2_with fail
        refine (N1.out _ _ _ _ _ S.sx sE).mono ?_
        rintro e w2 ⟨rfl, hx⟩
        clear S_0 S_1
        replace sE := sE.ext hx; replace S := S.ext hx; replace hb := ext_trans hb hx; clear hx
        have S_0 := S.bx.c0; have S_1 := S.bx.c1
        go_wp2_with fail
        refine (N2.out _ _ _ _ _ S.sx sE).mono ?_
        rintro e w3 ⟨rfl, hx⟩
        clear S_0 S_1
        replace sE := sE.ext hx; replace S := S.ext hx; replace hb := ext_trans hb hx; clear hx
        have S_0 := S.bx.c0; have S_1 := S.bx.c1
        go_wp2_with fail
        refine (N2.out _ _ _ _ _ S.sx sE).mono ?_
        rintro e w4 ⟨rfl, hx⟩
        clear S_0 S_1
        replace sE := sE.ext hx; replace S := S.ext hx; replace hb := ext_trans hb hx; clear hx
        have FIN := hd hb
        clear hb
        go_wp2
        go_ret
        exact ⟨rfl, FIN.out⟩
      · have g6 : (r == 0) = false := beq_eq_false_iff_ne.2 h6
        have hk := CP_same hv h6
        have hk0 := CP_nil hv
        clear h6 hv hge hm
        have N4 : Hid (∀ W A a, SlI W A a xs → Calls Try.prog 13 #[.agg #[.int .i64 r, .slice A xs.length a], .slice none 0 0] W (fun e w' => e = .returned (.int .i64 0) ∧ Below W.heap.size W w')) := hd (fun W A a s => by have := cp_any r A a xs none 0 [] W s (slI_nil _); rwa [hk0] at this)
        clear hk0
        have S_0 := S.bx.c0; have S_1 := S.bx.c1
        go_wp2_with fail
        refine (N1.out _ _ _ _ _ S.sx sE).mono ?_
        rintro e w2 ⟨rfl, hx⟩
        clear S_0 S_1
        replace sE := sE.ext hx; replace S := S.ext hx; replace hb := ext_trans hb hx; clear hx
        have S_0 := S.bx.c0; have S_1 := S.bx.c1
        go_wp2_with fail
        refine (N2.out _ _ _ _ _ S.sx sE).mono ?_
        rintro e w3 ⟨rfl, hx⟩
        clear S_0 S_1
        replace sE := sE.ext hx; replace S := S.ext hx; replace hb := ext_trans hb hx; clear hx
        clear N1 N2
        cases h4 : hasB xs 4 with
        | true =>
          rw [h4] at hk
          have N3 : Hid (∀ W A C a c, SlI W A a xs → SlI W C c [4, 4, 4] → Calls Try.prog 13 #[.agg #[.int .i64 r, .slice A xs.length a], .slice C 3 c] W (fun e w' => e = .returned (.int .i64 0) ∧ Below W.heap.size W w')) := hd (fun W A C a c s sa => by have := cp_any r A a xs C c [4, 4, 4] W s sa; rwa [hk] at this)
          have IS : Hid (∀ W A a, SlI W A a xs → Calls Try.prog 11 #[.slice A xs.length a, .int .i64 4] W (fun e w' => e = .returned (.bool true) ∧ w' = W)) := hd (fun W A a s => by have := lisIn_any A xs.length a xs 4 W s rfl; rwa [h4] at this)
          clear hk h4
          have hx : Below w3.heap.size w3 (w3.alloc (.cells #[.int .i64 4, .int .i64 4, .int .i64 4] 3)) := ext_alloc (Below.refl _ _) _
          have sl4 : SlI (w3.alloc (.cells #[.int .i64 4, .int .i64 4, .int .i64 4] 3)) (some ⟨w3.heap.size, 0, none⟩) 3 [4, 4, 4] := slI_made w3 3 [4, 4, 4] (by decide)
          have S_0 := S.bx.c0; have S_1 := S.bx.c1
          go_upto_region 7 with fail
          have S1 := S.ext hx
          go_wp2_with fail
          refine (N3.out _ _ _ _ _ S1.sx sl4).mono ?_
          rintro e wz ⟨rfl, hx2⟩
          replace hx := ext_trans hx hx2
          clear hx2 S1 sl4 N3
          clear S_0 S_1
          replace sE := sE.ext hx; replace S := S.ext hx; replace hb := ext_trans hb hx; clear hx
          have S_0 := S.bx.c0; have S_1 := S.bx.c1
          go_wp2_with fail
          refine (IS.out _ _ _ S.sx).mono ?_
          rintro e wy ⟨rfl, rfl⟩
          go_wp2_with fail
          refine (N4.out _ _ _ S.sx).mono ?_
          rintro e wv ⟨rfl, hx⟩
          clear S_0 S_1
          replace sE := sE.ext hx; replace S := S.ext hx; replace hb := ext_trans hb hx; clear hx
          have FIN := hd hb
          clear hb
          go_wp2
          go_ret
          exact ⟨rfl, FIN.out⟩
        | false =>
          rw [h4] at hk
          have N3 : Hid (∀ W A C a c, SlI W A a xs → SlI W C c [4, 4, 4] → Calls Try.prog 13 #[.agg #[.int .i64 r, .slice A xs.length a], .slice C 3 c] W (fun e w' => e = .returned (.int .i64 1) ∧ Below W.heap.size W w')) := hd (fun W A C a c s sa => by have := cp_any r A a xs C c [4, 4, 4] W s sa; rwa [hk] at this)
          have IS : Hid (∀ W A a, SlI W A a xs → Calls Try.prog 11 #[.slice A xs.length a, .int .i64 4] W (fun e w' => e = .returned (.bool false) ∧ w' = W)) := hd (fun W A a s => by have := lisIn_any A xs.length a xs 4 W s rfl; rwa [h4] at this)
          clear hk h4
          have hx : Below w3.heap.size w3 (w3.alloc (.cells #[.int .i64 4, .int .i64 4, .int .i64 4] 3)) := ext_alloc (Below.refl _ _) _
          have sl4 : SlI (w3.alloc (.cells #[.int .i64 4, .int .i64 4, .int .i64 4] 3)) (some ⟨w3.heap.size, 0, none⟩) 3 [4, 4, 4] := slI_made w3 3 [4, 4, 4] (by decide)
          have S_0 := S.bx.c0; have S_1 := S.bx.c1
          go_upto_region 7 with fail
          have S1 := S.ext hx
          go_wp2_with fail
          refine (N3.out _ _ _ _ _ S1.sx sl4).mono ?_
          rintro e wz ⟨rfl, hx2⟩
          replace hx := ext_trans hx hx2
          clear hx2 S1 sl4 N3
          clear S_0 S_1
          replace sE := sE.ext hx; replace S := S.ext hx; replace hb := ext_trans hb hx; clear hx
          have S_0 := S.bx.c0; have S_1 := S.bx.c1
          go_wp2_with fail
          refine (IS.out _ _ _ S.sx).mono ?_
          rintro e wy ⟨rfl, rfl⟩
          go_wp2_with fail
          refine (N4.out _ _ _ S.sx).mono ?_
          rintro e wv ⟨rfl, hx⟩
          clear S_0 S_1
          replace sE := sE.ext hx; replace S := S.ext hx; replace hb := ext_trans hb hx; clear hx
          have FIN := hd hb
          clear hb
          go_wp2
          go_ret
          exact ⟨rfl, FIN.out⟩
end Go.Proofs.Ytmenknnncjbbpaa
