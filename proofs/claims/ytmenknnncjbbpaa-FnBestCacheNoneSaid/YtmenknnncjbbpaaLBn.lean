/- The walk of laws.FnBestCacheNone. -/
import Derived.Test.YtmenknnncjbbpaaWBs
import Derived.Test.YtmenknnncjbbpaaPBn
import Derived.Test.YtmenknnncjbbpaaDrBc
namespace Go.Proofs.Ytmenknnncjbbpaa
open Go.RowKit
set_option maxRecDepth 100000 in
set_option maxHeartbeats 4000000 in
theorem lawBestCacheNone (A : Option Addr) (n c : Nat) (w : World) (h : SlB w A n c) :
    Calls Try.prog 3 #[.slice A n c] w fun e w' => e = .returned (.bool true) ∧ Below w.heap.size w w' := by
  have hmax := h.2.1
  have hcap := h.1
  unfold maxLen at hmax
  by_cases hn : 1048576 < n
  · go_enter Try.func3, Try.ntmps3
    go_wp2
    go_ret
    exact ⟨rfl, Below.refl _ _⟩
  · go_enter Try.func3, Try.ntmps3
    go_wp2_with fail
    refine (drawBestCache_any A n c w h).mono ?_
    rintro e w1 ⟨P, p, rs, E, f, ns, rfl, sC, lc, lr, sE, l2, hb⟩
    clear h
    obtain ⟨m, hm⟩ : ∃ m, BST (crs rs) ns = m := ⟨_, rfl⟩
    have N1 : Hid (∀ W A C a c, SlC W A a rs → SlI W C c ns → Calls Try.prog 9 #[.slice A rs.length a, .slice C ns.length c] W (fun e w' => e = .returned (.int .i64 m) ∧ Below W.heap.size W w')) := hd (fun W A C a c s sa => by have := bc_any A a rs C c ns W s sa; rwa [hm] at this)
    have N2 : Hid (∀ W A C a c, SlC W A a rs → SlI W C c ns → Calls Try.prog 10 #[.slice A rs.length a, .slice C ns.length c] W (fun e w' => e = .returned (.int .i64 m) ∧ Below W.heap.size W w')) := hd (fun W A C a c s sa => by have := sbc_any A a rs C c ns W s sa; rwa [hm] at this)
    have g1 : (m != m) = false := by simp
    have g2 : (m == m) = true := by simp
    by_cases hneg : m < 0
    · have g0 : decide (m < 0) = true := decide_eq_true hneg
      clear hneg hm
      go_wp2_with fail
      refine (N1.out _ _ _ _ _ sC sE).mono ?_
      rintro e w2 ⟨rfl, hx⟩
      replace sC := sC.ext hx; replace sE := sE.ext hx; replace hb := ext_trans hb hx; clear hx
      go_wp2_with fail
      refine (N2.out _ _ _ _ _ sC sE).mono ?_
      rintro e w3 ⟨rfl, hx⟩
      replace sC := sC.ext hx; replace sE := sE.ext hx; replace hb := ext_trans hb hx; clear hx
      go_wp2_with fail
      refine (N2.out _ _ _ _ _ sC sE).mono ?_
      rintro e w4 ⟨rfl, hx⟩
      replace sC := sC.ext hx; replace sE := sE.ext hx; replace hb := ext_trans hb hx; clear hx
      have FIN := hd hb
      clear hb
      go_wp2
      go_ret
      exact ⟨rfl, FIN.out⟩
    · have g0 : decide (m < 0) = false := decide_eq_false hneg
      have hge : 0 ≤ BST (crs rs) ns := by omega
      clear hneg
      have hl0 : 0 < rs.length := by have := (BST_get hge).2.2.2.2; cases rs with | nil => exact absurd rfl this | cons x y => simp
      have h3 := BST_nil hge
      have h4 := BST_one hge
      have e1 : (crs rs).take 1 = crs (rs.take 1) := by simp [crs, List.map_take]
      rw [e1] at h4
      have hcp := sC.1.cap
      have k1 : (1 : Int) ≤ (p : Int) := by omega
      have k0 : (0 : Int) ≤ 1 := by omega
      have kn : 1 ≤ p := by omega
      have el : 1 = (rs.take 1).length := by rw [List.length_take]; omega
      have N3 : Hid (∀ W A a, SlC W A a rs → Calls Try.prog 9 #[.slice A rs.length a, .slice none 0 0] W (fun e w' => e = .returned (.int .i64 0) ∧ Below W.heap.size W w')) := hd (fun W A a s => by have := bc_any A a rs none 0 [] W s (Sl.nil W 1 none 0 (by decide)); rwa [h3] at this)
      have N4 : Hid (∀ W A C a c, SlC W A a rs → SlI W C c ns → Calls Try.prog 9 #[.slice A 1 a, .slice C ns.length c] W (fun e w' => e = .returned (.int .i64 0) ∧ Below W.heap.size W w')) := hd (fun W A C a c s sa => by have := bc_any A a (rs.take 1) C c ns W (s.take (m := 1) (by omega)) sa; rwa [h4, ← el] at this)
      clear hm hge h3 h4 e1 el
      go_wp2_with fail
      refine (N1.out _ _ _ _ _ sC sE).mono ?_
      rintro e w2 ⟨rfl, hx⟩
      replace sC := sC.ext hx; replace sE := sE.ext hx; replace hb := ext_trans hb hx; clear hx
      go_wp2_with fail
      refine (N2.out _ _ _ _ _ sC sE).mono ?_
      rintro e w3 ⟨rfl, hx⟩
      replace sC := sC.ext hx; replace sE := sE.ext hx; replace hb := ext_trans hb hx; clear hx
      go_wp2_with fail
      refine (N3.out _ _ _ sC).mono ?_
      rintro e w4 ⟨rfl, hx⟩
      replace sC := sC.ext hx; replace sE := sE.ext hx; replace hb := ext_trans hb hx; clear hx
      go_wp2_with fail
      refine (N4.out _ _ _ _ _ sC sE).mono ?_
      rintro e w5 ⟨rfl, hx⟩
      replace sC := sC.ext hx; replace sE := sE.ext hx; replace hb := ext_trans hb hx; clear hx
      have FIN := hd hb
      clear hb
      go_wp2
      go_ret
      exact ⟨rfl, FIN.out⟩
end Go.Proofs.Ytmenknnncjbbpaa
