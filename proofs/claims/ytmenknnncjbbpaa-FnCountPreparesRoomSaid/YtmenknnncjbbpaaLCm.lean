/- The walk of laws.FnCountPreparesRoom. -/
import Derived.Test.YtmenknnncjbbpaaWCl
import Derived.Test.YtmenknnncjbbpaaWC7
import Derived.Test.YtmenknnncjbbpaaDrCn
namespace Go.Proofs.Ytmenknnncjbbpaa
open Go.RowKit
set_option maxRecDepth 100000 in
set_option maxHeartbeats 4000000 in
theorem lawCountPreparesRoom (A : Option Addr) (n c : Nat) (w : World) (h : SlB w A n c) :
    Calls Try.prog 5 #[.slice A n c] w fun e w' => e = .returned (.bool true) ∧ Below w.heap.size w w' := by
  have hmax := h.2.1
  have hcap := h.1
  unfold maxLen at hmax
  by_cases hn : 1048576 < n
  · go_enter Try.func5, Try.ntmps5
    go_wp2
    go_ret
    exact ⟨rfl, Below.refl _ _⟩
  · go_enter Try.func5, Try.ntmps5
    go_wp2_with fail
    refine (drawCountPrepares_any A n c w h).mono ?_
    rintro e w1 ⟨r, P, p, xs, E, f, ns, rfl, rr0, rr1, sP, l1, sE, l2, hb⟩
    clear h
    go_upto_region 4 with fail
    obtain ⟨X1, hX⟩ : ∃ W, W = w1.alloc (.cells #[.int .i64 r, .slice P xs.length p] 31) := ⟨_, rfl⟩
    rw [← hX]
    have S : Hc X1 w1.heap.size r P p xs := by rw [hX]; exact hc_new w1 sP
    have hx : Below w1.heap.size w1 X1 := by rw [hX]; exact ext_alloc (Below.refl _ _) _
    clear hX
    replace sE := sE.ext hx; replace hb := ext_trans hb hx; clear hx
    clear sP
    obtain ⟨m, hm⟩ : ∃ m, CP r xs ns = m := ⟨_, rfl⟩
    have N1 : Hid (∀ W A C a c, SlI W A a xs → SlI W C c ns → Calls Try.prog 13 #[.agg #[.int .i64 r, .slice A xs.length a], .slice C ns.length c] W (fun e w' => e = .returned (.int .i64 m) ∧ Below W.heap.size W w')) := hd (fun W A C a c s sa => by have := cp_any r A a xs C c ns W s sa; rwa [hm] at this)
    have N2 : Hid (∀ W A C a c, SlI W A a xs → SlI W C c ns → Calls Try.prog 14 #[.agg #[.int .i64 r, .slice A xs.length a], .slice C ns.length c] W (fun e w' => e = .returned (.int .i64 m) ∧ Below W.heap.size W w')) := hd (fun W A C a c s sa => by have := scp_any r A a xs C c ns W s sa; rwa [hm] at this)
    have g1 : (m != m) = false := by simp
    have g2 : (m == m) = true := by simp
    by_cases hneg : m < 0
    · have g0 : decide (m < 0) = true := decide_eq_true hneg
      clear hneg hm
      have S_0 := S.bx.c0; have S_1 := S.bx.c1
      go_wp2_with fail
      refine (N1.out _ _ _ _ _ S.sx sE).mono ?_
      rintro e w2 ⟨rfl, hx⟩
      clear S_0 S_1
      replace sE := sE.ext hx; replace S := S.ext hx; replace hb := ext_trans hb hx; clear hx
      have S_0 := S.bx.c0; have S_1 := S.bx.c1
      go_wp2_with fail
      refine (N2.out _ _ _ _ _ S.sx sE).mono ?_
      rintro e w3 ⟨rfl, hx⟩
      clear S_0 S_1
      replace sE := sE.ext hx; replace S := S.ext hx; replace hb := ext_trans hb hx; clear hx
      have S_0 := S.bx.c0; have S_1 := S.bx.c1
      go_wp2_with fail
      refine (N2.out _ _ _ _ _ S.sx sE).mono ?_
      rintro e w4 ⟨rfl, hx⟩
      clear S_0 S_1
      replace sE := sE.ext hx; replace S := S.ext hx; replace hb := ext_trans hb hx; clear hx
      have FIN := hd hb
      clear hb
      go_wp2
      go_ret
      exact ⟨rfl, FIN.out⟩
    · have g0 : decide (m < 0) = false := decide_eq_false hneg
      have hge : 0 ≤ CP r xs ns := by omega
      clear hneg
      obtain ⟨hv, -, -, -⟩ := CP_valid hge
      have V0 := (validC_iff.1 hv).r0
      have V6 := (validC_iff.1 hv).r1
      by_cases h6 : r = 6
      · have g6 : (r == 6) = true := beq_iff_eq.2 h6
        clear h6 hv hge hm
        have S_0 := S.bx.c0; have S_1 := S.bx.c1
        go_wp2_with fail
        refine (N1.out _ _ _ _ _ S.sx sE).mono ?_
        rintro e w2 ⟨rfl, hx⟩
        clear S_0 S_1
        replace sE := sE.ext hx; replace S := S.ext hx; replace hb := ext_trans hb hx; clear hx
        have S_0 := S.bx.c0; have S_1 := S.bx.c1
        go_wp2_with fail
        refine (N2.out _ _ _ _ _ S.sx sE).mono ?_
        rintro e w3 ⟨rfl, hx⟩
        clear S_0 S_1
        replace sE := sE.ext hx; replace S := S.ext hx; replace hb := ext_trans hb hx; clear hx
        have S_0 := S.bx.c0; have S_1 := S.bx.c1
        go_wp2_with fail
        refine (N2.out _ _ _ _ _ S.sx sE).mono ?_
        rintro e w4 ⟨rfl, hx⟩
        clear S_0 S_1
        replace sE := sE.ext hx; replace S := S.ext hx; replace hb := ext_trans hb hx; clear hx
        have FIN := hd hb
        clear hb
        go_wp2
        go_ret
        exact ⟨rfl, FIN.out⟩
      · have g6 : (r == 6) = false := beq_eq_false_iff_ne.2 h6
        obtain ⟨q1, q2⟩ := CP_room hge h6
        rw [hm] at q2
        obtain ⟨k, hk⟩ : ∃ k, CP (r + 1) xs ns = k := ⟨_, rfl⟩
        rw [hk] at q1 q2
        have N3 : Hid (∀ W A C a c, SlI W A a xs → SlI W C c ns → Calls Try.prog 13 #[.agg #[.int .i64 (r + 1), .slice A xs.length a], .slice C ns.length c] W (fun e w' => e = .returned (.int .i64 k) ∧ Below W.heap.size W w')) := hd (fun W A C a c s sa => by have := cp_any (r + 1) A a xs C c ns W s sa; rwa [hk] at this)
        have g7 : decide (0 ≤ k) = true := decide_eq_true q1
        have g8 : decide (k ≤ m) = true := decide_eq_true q2
        have hwr : IntKind.i64.wrap (r + 1) = r + 1 := by rw [IntKind.wrap_i64]; omega
        clear h6 hv hge hm hk q1 q2
        have S_0 := S.bx.c0; have S_1 := S.bx.c1
        go_wp2_with fail
        refine (N1.out _ _ _ _ _ S.sx sE).mono ?_
        rintro e w2 ⟨rfl, hx⟩
        clear S_0 S_1
        replace sE := sE.ext hx; replace S := S.ext hx; replace hb := ext_trans hb hx; clear hx
        have S_0 := S.bx.c0; have S_1 := S.bx.c1
        go_wp2_with fail
        refine (N2.out _ _ _ _ _ S.sx sE).mono ?_
        rintro e w3 ⟨rfl, hx⟩
        clear S_0 S_1
        replace sE := sE.ext hx; replace S := S.ext hx; replace hb := ext_trans hb hx; clear hx
        have S_0 := S.bx.c0; have S_1 := S.bx.c1
        go_wp2_with fail
        refine (N3.out _ _ _ _ _ S.sx sE).mono ?_
        rintro e w4 ⟨rfl, hx⟩
        clear S_0 S_1
        replace sE := sE.ext hx; replace S := S.ext hx; replace hb := ext_trans hb hx; clear hx
        have FIN := hd hb
        clear hb
        go_wp2
        go_ret
        exact ⟨rfl, FIN.out⟩
end Go.Proofs.Ytmenknnncjbbpaa
