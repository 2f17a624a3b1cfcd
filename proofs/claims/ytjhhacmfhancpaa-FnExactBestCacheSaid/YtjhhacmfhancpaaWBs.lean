/- Contracts of caches: BestCache of the reference. -/
import Derived.Test.YtjhhacmfhancpaaWBc
namespace Go.Proofs.Ytjhhacmfhancpaa
open Go.RowKit
set_option maxRecDepth 100000 in
set_option maxHeartbeats 4000000 in
theorem sbc_any (A : Option Addr) (c : Nat) (rs : List Cr) (L : Option Addr) (l : Nat) (names : List Int) (w : World) (h : SlC w A c rs) (hn : SlI w L l names) :
    Calls Try.prog 24 #[.slice A rs.length c, .slice L names.length l] w fun e w' => e = .returned (.int .i64 (BST (crs rs) names)) ∧ Below w.heap.size w w' := by
  have hmaxl := hn.max
  have hcapl := hn.cap
  unfold maxLen at hmaxl
  have HCL := hd (crs_len rs)
  by_cases h6 : 6 < rs.length
  · have g1 : decide ((6 : Int) < (rs.length : Int)) = true := decide_eq_true (by omega)
    have g2 : decide (6 < rs.length) = true := decide_eq_true h6
    have HR := hd (BST_no1 (cs := crs rs) (ns := names) (by rw [HCL.out]; omega))
    clear h6
    go_enter Try.func24, Try.ntmps24
    go_wp2
    go_ret
    exact ⟨by rw [HR.out]; rfl, Below.refl _ _⟩
  have g1 : decide ((6 : Int) < (rs.length : Int)) = false := decide_eq_false (by omega)
  have g2 : decide (6 < rs.length) = false := decide_eq_false h6
  by_cases h16 : 16 < names.length
  · have g3 : decide ((16 : Int) < (names.length : Int)) = true := decide_eq_true (by omega)
    have g4 : decide (16 < names.length) = true := decide_eq_true h16
    have HR := hd (BST_no2 (cs := crs rs) (ns := names) (by omega))
    clear h6 h16
    go_enter Try.func24, Try.ntmps24
    go_wp2
    go_ret
    exact ⟨by rw [HR.out]; rfl, Below.refl _ _⟩
  have g3 : decide ((16 : Int) < (names.length : Int)) = false := decide_eq_false (by omega)
  have g4 : decide (16 < names.length) = false := decide_eq_false h16
  cases h3 : allL names 0 9 with
  | false =>
    have HR := hd (BST_no3 (cs := crs rs) (difB_rng h3))
    go_enter Try.func24, Try.ntmps24
    go_wp2_with fail
    refine (sAllIn_any L l names 0 9 w hn).mono ?_
    rintro e w1 ⟨rfl, rfl⟩
    rw [h3]
    clear h3
    go_wp2
    go_ret
    exact ⟨by rw [HR.out]; rfl, Below.refl _ _⟩
  | true =>
    have HQ := hd h3
    have H1 := hd h
    have H2 := hd hn
    go_enter Try.func24, Try.ntmps24
    go_wp2_with fail
    refine (sAllIn_any L l names 0 9 w hn).mono ?_
    rintro e w1 ⟨rfl, rfl⟩
    rw [h3]
    clear h3 h hn
    go_wp2_with fail
    go_loopw [7] (fun i wr => ∃ k : Nat, k ≤ names.length ∧ i = .int .i64 k ∧ Hid (NdU names k) ∧ Below w.heap.size w wr) (fun i _ => names.length - (intOf i).toNat)
    case atStart => exact ⟨0, Nat.zero_le _, rfl, fun i hi => absurd hi (Nat.not_lt_zero _), Below.refl _ _⟩
    case round =>
      obtain ⟨k, hk, rfl, HN, hb⟩ := hrel
      by_cases hlt : k < names.length
      · obtain ⟨ad, rfl, -, -⟩ := SlI.at H2.out hlt
        have a0 := SlI.at1 (H2.out.ext hb) hlt
        have hkl : k ≤ l := by omega
        have hkl2 : (k : Int) ≤ (l : Int) := by omega
        have hl' : k = (names.take k).length := by rw [List.length_take]; omega
        have HT := hd (fun W (hW : SlI W (some ad) l (names.take k)) => isIn_any (some ad) k l (names.take k) names[k] W hW hl')
        have st := (H2.out.ext hb).take hk
        have HBB := hd hb
        clear hl' hb
        cases h2 : hasB (names.take k) names[k] with
        | true =>
          have HR := hd (BST_no3 (cs := crs rs) (difB_dup hlt h2))
          rw [h2] at HT
          clear h2
          go_wp2_with fail
          go_quiet ((go_at_call 32; exact Calls.quiet_of_same (HT.out _ st)))
          go_wp2
          go_ret
          exact ⟨by rw [HR.out]; rfl, below_drewN HBB.out _⟩
        | false =>
          have HN' := hd (ndU_take hlt HN.out h2)
          rw [h2] at HT
          clear h2
          go_wp2_with fail
          go_quiet ((go_at_call 32; exact Calls.quiet_of_same (HT.out _ st)))
          go_wp2
          go_roundw
          case rel => exact ⟨k + 1, by omega, by go_num, HN', below_drewN HBB.out _⟩
          case measure => simp [intOf]; omega
      · obtain rfl : k = names.length := by omega
        have HB := hd (BST_ok (cs := crs rs) (ns := names) (by rw [HCL.out]; omega) (by omega) (show difB names = true by simp only [difB, HQ.out, ndB_yes HN.out, Bool.and_true]))
        clear HN
        obtain ⟨wb, hwb⟩ : ∃ x, x = wr := ⟨_, rfl⟩
        rw [← hwb] at hb ⊢
        clear hwb
        go_wp2_with fail
        go_loopw [5, 6, 8] (fun b m i wr => ∃ (k : Nat) (q p : Int), k ≤ rs.length ∧ i = .int .i64 k ∧ b = .int .i64 q ∧ m = .int .i64 p ∧ Hid (BST (crs rs) names = bstL names ((crs rs).drop k) k q p) ∧ -1 ≤ p ∧ p ≤ 16 ∧ Below w.heap.size w wr) (fun _ _ i _ => rs.length - (intOf i).toNat)
        case atStart => exact ⟨0, -1, -1, Nat.zero_le _, rfl, rfl, rfl, HB.out, by omega, by omega, hb⟩
        case round =>
          clear hb HB
          obtain ⟨k, q, p, hk, rfl, rfl, rfl, HK, hp0, hp1, hb⟩ := hrel
          by_cases hlt : k < rs.length
          · obtain ⟨ad, rfl, hbl, e0, e1, s⟩ := (H1.out.ext hb).at hlt
            have hlt' : k < (crs rs).length := by rw [HCL.out]; exact hlt
            have hat := crs_at rs k hlt
            obtain ⟨r, hr⟩ : ∃ r, r = rs[k] := ⟨_, rfl⟩
            have HRK := hd hr
            rw [← hr] at e0 e1 s hat
            have HAT := hd hat
            clear hr hat
            go_wp2_with fail
            refine (svca_any r.1 r.2.1 r.2.2.1 r.2.2.2 wr s).mono ?_
            rintro e wa ⟨rfl, hx2⟩
            replace hb := ext_trans hb hx2
            clear hx2 s e0 e1
            cases hv : VCa r.1 r.2.2.2 with
            | false =>
              have HR := hd (HK.out.trans (bstL_bad hlt' (by rw [HAT.out]; exact hv) k q p))
              have FIN := hd hb
              clear hb hv
              go_wp2
              go_ret
              exact ⟨by rw [HR.out]; rfl, FIN.out⟩
            | true =>
              have HM : Hid (∀ y : Int, y = held r.2.2.2 names → p < y → BST (crs rs) names = bstL names ((crs rs).drop (k + 1)) (k + 1) k y) := hd (fun y hy hp => by
                have hm : p < held ((crs rs)[k]).2 names := by rw [HAT.out, ← hy]; exact hp
                rw [HK.out, bstL_more hlt' (by rw [HAT.out]; exact hv) k q p hm, HAT.out, hy])
              have HS : Hid (∀ y : Int, y = held r.2.2.2 names → ¬ p < y → BST (crs rs) names = bstL names ((crs rs).drop (k + 1)) (k + 1) q p) := hd (fun y hy hp => by
                have hm : ¬ p < held ((crs rs)[k]).2 names := by rw [HAT.out, ← hy]; exact hp
                rw [HK.out, bstL_less hlt' (by rw [HAT.out]; exact hv) k q p hm])
              clear HAT hv hlt'
              go_wp2_with fail
              go_loopw [9, 10] (fun n j w2 => ∃ (u : Nat) (x : Int), u ≤ names.length ∧ j = .int .i64 u ∧ n = .int .i64 x ∧ Hid (x = held r.2.2.2 (names.take u)) ∧ 0 ≤ x ∧ x ≤ u ∧ Below w.heap.size w w2) (fun _ j _ => names.length - (intOf j).toNat)
              case atStart => exact ⟨0, 0, Nat.zero_le _, rfl, rfl, hd rfl, by omega, by omega, hb⟩
              case round =>
                clear hb
                obtain ⟨u, x, hu, rfl, rfl, HX, hx0, hx1, hb⟩ := hrel
                by_cases hlu : u < names.length
                · obtain ⟨ad3, hA3, -, -⟩ := SlI.at H2.out hlu
                  subst hA3
                  obtain ⟨_, hA4, -, -, e1, s⟩ := (H1.out.ext hb).at hlt
                  injection hA4 with hA4
                  subst hA4
                  rw [← HRK.out] at e1 s
                  have a0 := SlI.at1 (H2.out.ext hb) hlu
                  have HW := hd (held_take (xs := r.2.2.2) hlu)
                  obtain ⟨v, hv⟩ : ∃ v, v = names[u] := ⟨_, rfl⟩
                  rw [← hv] at a0
                  have HV := hd hv
                  have HBB := hd hb
                  have HC := hd (fun W (hW : SlI W r.2.1 r.2.2.1 r.2.2.2) => isIn_any r.2.1 _ r.2.2.1 r.2.2.2 v W hW rfl)
                  clear hv hb
                  cases hh : hasB r.2.2.2 v with
                  | true =>
                    have HX2 : Hid (x + 1 = held r.2.2.2 (names.take (u + 1))) := hd (by rw [HW.out, ← HV.out, if_pos hh, HX.out])
                    rw [hh] at HC
                    clear hh
                    have hw : IntKind.i64.wrap (x + 1) = x + 1 := by rw [IntKind.wrap_i64]; omega
                    go_wp2_with fail
                    go_quiet (first | (go_at_call 32; exact Calls.quiet_of_same (HC.out _ s)) | (go_at_call 44; exact Calls.quiet_of_same (toInt_any true _)))
                    go_wp2
                    go_roundw
                    case rel => exact ⟨u + 1, x + 1, by omega, by go_num, rfl, HX2, by omega, by omega, below_drewN HBB.out _⟩
                    case measure => simp [intOf]; omega
                  | false =>
                    have HX2 : Hid (x = held r.2.2.2 (names.take (u + 1))) := hd (by rw [HW.out, ← HV.out, if_neg (by rw [hh]; decide), HX.out]; omega)
                    rw [hh] at HC
                    clear hh
                    have hw : IntKind.i64.wrap (x + 0) = x := by rw [IntKind.wrap_i64]; omega
                    have hw0 : IntKind.i64.wrap x = x := by rw [IntKind.wrap_i64]; omega
                    go_wp2_with fail
                    go_quiet (first | (go_at_call 32; exact Calls.quiet_of_same (HC.out _ s)) | (go_at_call 44; exact Calls.quiet_of_same (toInt_any false _)))
                    go_wp2
                    go_roundw
                    case rel => exact ⟨u + 1, x, by omega, by go_num, rfl, HX2, by omega, by omega, below_drewN HBB.out _⟩
                    case measure => simp [intOf]; omega
                · obtain rfl : u = names.length := by omega
                  have HX2 := hd (show x = held r.2.2.2 names by rw [HX.out, List.take_length])
                  have HBB := hd hb
                  clear hb
                  by_cases hm : p < x
                  · have gm : decide (p < x) = true := decide_eq_true hm
                    have HK2 := hd (HM.out x HX2.out (by omega))
                    clear hm
                    go_wp2_with fail
                    go_roundw
                    case rel => exact ⟨k + 1, k, x, by omega, by go_num, rfl, rfl, HK2, by omega, by omega, HBB.out⟩
                    case measure => simp [intOf]; omega
                  · have gm : decide (p < x) = false := decide_eq_false hm
                    have HK2 := hd (HS.out x HX2.out (by omega))
                    clear hm
                    go_wp2_with fail
                    go_roundw
                    case rel => exact ⟨k + 1, q, p, by omega, by go_num, rfl, rfl, HK2, hp0, hp1, HBB.out⟩
                    case measure => simp [intOf]; omega
          · obtain rfl : k = rs.length := by omega
            have HR := hd (show BST (crs rs) names = q by rw [HK.out, ← HCL.out]; exact bstL_done _ _ _ _ _)
            have FIN := hd hb
            clear hb
            go_wp2
            go_ret
            exact ⟨by rw [HR.out]; rfl, FIN.out⟩
end Go.Proofs.Ytjhhacmfhancpaa
