/- The walk of laws.FnBestCache. -/
import Derived.Test.YtmenknnncjbbpaaWBs
import Derived.Test.YtmenknnncjbbpaaWCl
import Derived.Test.YtmenknnncjbbpaaPBb
import Derived.Test.YtmenknnncjbbpaaDrBc
namespace Go.Proofs.Ytmenknnncjbbpaa
open Go.RowKit
set_option maxRecDepth 100000 in
set_option maxHeartbeats 4000000 in
theorem lawBestCache (A : Option Addr) (n c : Nat) (w : World) (h : SlB w A n c) :
    Calls Try.prog 4 #[.slice A n c] w fun e w' => e = .returned (.bool true) ∧ Below w.heap.size w w' := by
  have hmax := h.2.1
  have hcap := h.1
  unfold maxLen at hmax
  by_cases hn : 1048576 < n
  · go_enter Try.func4, Try.ntmps4
    go_wp2
    go_ret
    exact ⟨rfl, Below.refl _ _⟩
  · go_enter Try.func4, Try.ntmps4
    go_wp2_with fail
    refine (drawBestCache_any A n c w h).mono ?_
    rintro e w1 ⟨P, p, rs, E, f, ns, rfl, sC, lc, lr, sE, l2, hb⟩
    clear h
    obtain ⟨m, hm⟩ : ∃ m, BST (crs rs) ns = m := ⟨_, rfl⟩
    have N1 : Hid (∀ W A C a c, SlC W A a rs → SlI W C c ns → Calls Try.prog 9 #[.slice A rs.length a, .slice C ns.length c] W (fun e w' => e = .returned (.int .i64 m) ∧ Below W.heap.size W w')) := hd (fun W A C a c s sa => by have := bc_any A a rs C c ns W s sa; rwa [hm] at this)
    have N2 : Hid (∀ W A C a c, SlC W A a rs → SlI W C c ns → Calls Try.prog 10 #[.slice A rs.length a, .slice C ns.length c] W (fun e w' => e = .returned (.int .i64 m) ∧ Below W.heap.size W w')) := hd (fun W A C a c s sa => by have := sbc_any A a rs C c ns W s sa; rwa [hm] at this)
    have g1 : (m != m) = false := by simp
    have g2 : (m == m) = true := by simp
    by_cases hneg : m < 0
    · have g0 : decide (m < 0) = true := decide_eq_true hneg
      clear hneg hm
      go_wp2_with fail
      refine (N1.out _ _ _ _ _ sC sE).mono ?_
      rintro e w2 ⟨rfl, hx⟩
      replace sC := sC.ext hx; replace sE := sE.ext hx; replace hb := ext_trans hb hx; clear hx
      go_wp2_with fail
      refine (N2.out _ _ _ _ _ sC sE).mono ?_
      rintro e w3 ⟨rfl, hx⟩
      replace sC := sC.ext hx; replace sE := sE.ext hx; replace hb := ext_trans hb hx; clear hx
      go_wp2_with fail
      refine (N2.out _ _ _ _ _ sC sE).mono ?_
      rintro e w4 ⟨rfl, hx⟩
      replace sC := sC.ext hx; replace sE := sE.ext hx; replace hb := ext_trans hb hx; clear hx
      have FIN := hd hb
      clear hb
      go_wp2
      go_ret
      exact ⟨rfl, FIN.out⟩
    · have g0 : decide (m < 0) = false := decide_eq_false hneg
      have hge : 0 ≤ BST (crs rs) ns := by omega
      clear hneg
      obtain ⟨n, rfl⟩ : ∃ n : Nat, m = (n : Int) := ⟨m.toNat, by omega⟩
      obtain ⟨hnl, hb1, hb2⟩ := BST_at hm
      obtain ⟨hr6, hn16, -⟩ := BST_get hge
      have HCL := hd (crs_len rs)
      rw [HCL.out] at hnl hb2 hr6
      have HB1 := hd hb1
      have HB2 := hd hb2
      have g3 : decide ((rs.length : Int) ≤ (n : Int)) = false := decide_eq_false (by omega)
      have g4 : decide (rs.length ≤ n) = false := decide_eq_false (by omega)
      have hN0 : 0 ≤ hAt (crs rs) ns n := by rw [hAt_of (by rw [HCL.out]; exact hnl)]; exact (held_nonneg _ _).1
      obtain ⟨hN, eN⟩ : ∃ hN, hN = hAt (crs rs) ns n := ⟨_, rfl⟩
      rw [← eN] at hN0
      have EN := hd eN
      clear hm hge hb1 hb2 eN
      go_wp2_with fail
      refine (N1.out _ _ _ _ _ sC sE).mono ?_
      rintro e w2 ⟨rfl, hx⟩
      replace sC := sC.ext hx; replace sE := sE.ext hx; replace hb := ext_trans hb hx; clear hx
      go_wp2_with fail
      refine (N2.out _ _ _ _ _ sC sE).mono ?_
      rintro e w3 ⟨rfl, hx⟩
      replace sC := sC.ext hx; replace sE := sE.ext hx; replace hb := ext_trans hb hx; clear hx
      clear N1 N2
      have H1 := hd sC
      have H2 := hd sE
      clear sC sE
      obtain ⟨wb, hwb⟩ : ∃ x, x = w3 := ⟨_, rfl⟩
      rw [← hwb] at H1 H2 hb ⊢
      clear hwb
      have HBW := hd hb
      clear hb
      go_wp2_with fail
      go_loopw [6, 7, 8] (fun b q i wr => ∃ (k : Nat) (y z : Int), k ≤ rs.length ∧ i = .int .i64 k ∧ b = .int .i64 y ∧ q = .int .i64 z ∧ -1 ≤ y ∧ (k ≤ n → y < hN) ∧ (n < k → y = hN ∧ z = (n : Int)) ∧ Below wb.heap.size wb wr) (fun _ _ i _ => rs.length - (intOf i).toNat)
      case atStart => exact ⟨0, -1, -1, Nat.zero_le _, rfl, rfl, rfl, by omega, fun _ => by omega, fun h => by omega, Below.refl _ _⟩
      case round =>
        obtain ⟨k, y, z, hk, rfl, rfl, rfl, hy0, hy1, hy2, hb⟩ := hrel
        have Y1 := hd hy1
        have Y2 := hd hy2
        clear hy1 hy2
        by_cases hlt : k < rs.length
        · obtain ⟨r, hr⟩ : ∃ r, r = rs[k] := ⟨_, rfl⟩
          have HRK := hd hr
          have HXK := hd (show hAt (crs rs) ns k = held r.2.2.2 ns by rw [hAt_of (by rw [HCL.out]; exact hlt), crs_at rs k hlt, hr])
          clear hr
          go_wp2_with fail
          go_loopw [9, 10] (fun n j w2 => ∃ (u : Nat) (x : Int), u ≤ ns.length ∧ j = .int .i64 u ∧ n = .int .i64 x ∧ Hid (x = held r.2.2.2 (ns.take u)) ∧ 0 ≤ x ∧ x ≤ u ∧ Below wb.heap.size wb w2) (fun _ j _ => ns.length - (intOf j).toNat)
          case atStart => exact ⟨0, 0, Nat.zero_le _, rfl, rfl, hd rfl, by omega, by omega, hb⟩
          case round =>
            clear hb
            obtain ⟨u, x, hu, rfl, rfl, HX, hx0, hx1, hb⟩ := hrel
            by_cases hlu : u < ns.length
            · obtain ⟨ad3, hA3, -, -⟩ := SlI.at H2.out hlu
              subst hA3
              obtain ⟨ad, hA4, -, -, e1, s⟩ := (H1.out.ext hb).at hlt
              subst hA4
              rw [← HRK.out] at e1 s
              have a0 := SlI.at1 (H2.out.ext hb) hlu
              have HW := hd (held_take (xs := r.2.2.2) hlu)
              obtain ⟨v, hv⟩ : ∃ v, v = ns[u] := ⟨_, rfl⟩
              rw [← hv] at a0
              have HV := hd hv
              have HBB := hd hb
              have HC := hd (fun W (hW : SlI W r.2.1 r.2.2.1 r.2.2.2) => lisIn_any r.2.1 _ r.2.2.1 r.2.2.2 v W hW rfl)
              clear hv hb
              cases hh : hasB r.2.2.2 v with
              | true =>
                have HX2 : Hid (x + 1 = held r.2.2.2 (ns.take (u + 1))) := hd (by rw [HW.out, ← HV.out, if_pos hh, HX.out])
                rw [hh] at HC
                clear hh
                have hw : IntKind.i64.wrap (x + 1) = x + 1 := by rw [IntKind.wrap_i64]; omega
                go_wp2_with fail
                go_quiet ((go_at_call 11; exact Calls.quiet_of_same (HC.out _ s)))
                go_wp2
                go_roundw
                case rel => exact ⟨u + 1, x + 1, by omega, by go_num, rfl, HX2, by omega, by omega, below_drewN HBB.out _⟩
                case measure => simp [intOf]; omega
              | false =>
                have HX2 : Hid (x = held r.2.2.2 (ns.take (u + 1))) := hd (by rw [HW.out, ← HV.out, if_neg (by rw [hh]; decide), HX.out]; omega)
                rw [hh] at HC
                clear hh
                have hw : IntKind.i64.wrap (x + 1) = x + 1 := by rw [IntKind.wrap_i64]; omega
                go_wp2_with fail
                go_quiet ((go_at_call 11; exact Calls.quiet_of_same (HC.out _ s)))
                go_wp2
                go_roundw
                case rel => exact ⟨u + 1, x, by omega, by go_num, rfl, HX2, by omega, by omega, below_drewN HBB.out _⟩
                case measure => simp [intOf]; omega
            · obtain rfl : u = ns.length := by omega
              have HX2 := hd (show x = hAt (crs rs) ns k by rw [HXK.out, HX.out, List.take_length])
              have HBB := hd hb
              clear hb
              by_cases hkn : k ≤ n
              · have q1 : decide ((k : Int) ≤ (n : Int)) = true := decide_eq_true (by omega)
                have q2 : decide (k ≤ n) = true := decide_eq_true hkn
                have hyN := Y1.out hkn
                have hxN : k < n → x < hN := fun h => by rw [HX2.out, EN.out]; exact HB1.out k h
                have hxE : k = n → x = hN := fun h => by rw [HX2.out, EN.out, h]
                have XN := hd hxN
                have XE := hd hxE
                clear hxN hxE
                by_cases hm : y < x
                · have gm : decide (y < x) = true := decide_eq_true hm
                  have gx : decide (x < x) = false := decide_eq_false (by omega)
                  have Z1 := hd (fun (h : k + 1 ≤ n) => XN.out (by omega))
                  have Z2 := hd (fun (h : n < k + 1) => And.intro (XE.out (by omega)) (show (k : Int) = (n : Int) by omega))
                  clear hm hyN
                  go_wp2_with fail
                  go_roundw
                  case rel => exact ⟨k + 1, x, k, by omega, by go_num, rfl, rfl, by omega, Z1.out, Z2.out, HBB.out⟩
                  case measure => simp [intOf]; omega
                · have gm : decide (y < x) = false := decide_eq_false hm
                  have Z2 := hd (fun (h : n < k + 1) => (by have := XE.out (by omega); omega : y = hN ∧ z = (n : Int)))
                  have Z1 := hd (fun (_ : k + 1 ≤ n) => hyN)
                  clear hm hyN
                  go_wp2_with fail
                  go_roundw
                  case rel => exact ⟨k + 1, y, z, by omega, by go_num, rfl, rfl, hy0, Z1.out, Z2.out, HBB.out⟩
                  case measure => simp [intOf]; omega
              · have q1 : decide ((k : Int) ≤ (n : Int)) = false := decide_eq_false (by omega)
                have q2 : decide (k ≤ n) = false := decide_eq_false hkn
                have Z := hd (Y2.out (by omega))
                have gm : decide (y < x) = false := decide_eq_false (by have h1 := Z.out.1; have h2 := HB2.out k hlt; rw [← HX2.out, ← EN.out] at h2; omega)
                go_wp2_with fail
                go_roundw
                case rel => exact ⟨k + 1, y, z, by omega, by go_num, rfl, rfl, hy0, fun h => by omega, fun _ => Z.out, HBB.out⟩
                case measure => simp [intOf]; omega
        · obtain rfl : k = rs.length := by omega
          obtain ⟨-, rfl⟩ := Y2.out (by omega)
          have FIN := hd (ext_trans HBW.out hb)
          have gz : ((n : Int) == (n : Int)) = true := by simp
          clear hb
          go_wp2
          go_ret
          exact ⟨rfl, FIN.out⟩
end Go.Proofs.Ytmenknnncjbbpaa
