/- Contracts of caches: BestCache. -/
import Derived.Test.YtjhhacmfhancpaaWC2
import Derived.Test.YtjhhacmfhancpaaMBc
import Derived.Test.YtjhhacmfhancpaaPBc
import Derived.Test.YtjhhacmfhancpaaMCa
import Derived.Deep.DeepCutAuto
namespace Go.Proofs.Ytjhhacmfhancpaa
open Go.RowKit
def crs (rs : List Cr) : List (Int × List Int) := rs.map fun r => (r.1, r.2.2.2)
theorem crs_len (rs : List Cr) : (crs rs).length = rs.length := by simp [crs]
theorem crs_at (rs : List Cr) (i : Nat) (h : i < rs.length) : (crs rs)[i]'(by rw [crs_len]; exact h) = (rs[i].1, rs[i].2.2.2) := by simp [crs]
set_option maxRecDepth 100000 in
set_option maxHeartbeats 4000000 in
theorem bc_any (A : Option Addr) (c : Nat) (rs : List Cr) (L : Option Addr) (l : Nat) (names : List Int) (w : World) (h : SlC w A c rs) (hn : SlI w L l names) :
    Calls Try.prog 26 #[.slice A rs.length c, .slice L names.length l] w fun e w' => e = .returned (.int .i64 (BST (crs rs) names)) ∧ Below w.heap.size w w' := by
  have HCL := hd (crs_len rs)
  by_cases h6 : 6 < rs.length
  · have g1 : decide ((6 : Int) < (rs.length : Int)) = true := decide_eq_true (by omega)
    have g2 : decide (6 < rs.length) = true := decide_eq_true h6
    have HR := hd (BST_no1 (cs := crs rs) (ns := names) (by rw [HCL.out]; omega))
    clear h6
    go_enter Try.func26, Try.ntmps26
    go_wp2
    go_ret
    exact ⟨by rw [HR.out]; rfl, Below.refl _ _⟩
  have g1 : decide ((6 : Int) < (rs.length : Int)) = false := decide_eq_false (by omega)
  have g2 : decide (6 < rs.length) = false := decide_eq_false h6
  by_cases h16 : 16 < names.length
  · have g3 : decide ((16 : Int) < (names.length : Int)) = true := decide_eq_true (by omega)
    have g4 : decide (16 < names.length) = true := decide_eq_true h16
    have HR := hd (BST_no2 (cs := crs rs) (ns := names) (by omega))
    clear h6 h16
    go_enter Try.func26, Try.ntmps26
    go_wp2
    go_ret
    exact ⟨by rw [HR.out]; rfl, Below.refl _ _⟩
  have g3 : decide ((16 : Int) < (names.length : Int)) = false := decide_eq_false (by omega)
  have g4 : decide (16 < names.length) = false := decide_eq_false h16
  cases h3 : difB names with
  | false =>
    have HR := hd (BST_no3 (cs := crs rs) h3)
    go_enter Try.func26, Try.ntmps26
    go_wp2_with fail
    refine (diff_any L l names w hn).mono ?_
    rintro e w1 ⟨rfl, rfl⟩
    rw [h3]
    clear h3
    go_wp2
    go_ret
    exact ⟨by rw [HR.out]; rfl, Below.refl _ _⟩
  | true =>
    have HB := hd (BST_ok (cs := crs rs) (ns := names) (by rw [HCL.out]; omega) (by omega) h3)
    have H1 := hd h
    have H2 := hd hn
    go_enter Try.func26, Try.ntmps26
    go_wp2_with fail
    refine (diff_any L l names w hn).mono ?_
    rintro e w1 ⟨rfl, rfl⟩
    rw [h3]
    clear h3 h hn
    go_wp2_with fail
    go_loopw [5, 6, 27] (fun b m i wr => ∃ (k : Nat) (q p : Int), k ≤ rs.length ∧ i = .int .i64 k ∧ b = .int .i64 q ∧ m = .int .i64 p ∧ Hid (BST (crs rs) names = bstL names ((crs rs).drop k) k q p) ∧ -1 ≤ p ∧ p ≤ 16 ∧ Below w.heap.size w wr) (fun _ _ i _ => rs.length - (intOf i).toNat)
    case atStart => exact ⟨0, -1, -1, Nat.zero_le _, rfl, rfl, rfl, HB.out, by omega, by omega, Below.refl _ _⟩
    case round =>
      obtain ⟨k, q, p, hk, rfl, rfl, rfl, HK, hp0, hp1, hb⟩ := hrel
      by_cases hlt : k < rs.length
      · obtain ⟨ad, rfl, hbl, e0, e1, s⟩ := (H1.out.ext hb).at hlt
        have hlt' : k < (crs rs).length := by rw [HCL.out]; exact hlt
        have hat := crs_at rs k hlt
        obtain ⟨r, hr⟩ : ∃ r, r = rs[k] := ⟨_, rfl⟩
        rw [← hr] at e0 e1 s hat
        have HAT := hd hat
        clear hr hat
        go_upto_region 7 with fail
        obtain ⟨X, hX⟩ : ∃ X, X = wr.alloc (.cells #[.int .i64 r.1, .slice r.2.1 r.2.2.2.length r.2.2.1] 27) := ⟨_, rfl⟩
        rw [← hX]
        have bx : Cx 27 X wr.heap.size (.int .i64 r.1) (.slice r.2.1 r.2.2.2.length r.2.2.1) := by rw [hX]; exact Cx.new wr _ _
        have hx : Below wr.heap.size wr X := by rw [hX]; exact ext_alloc (Below.refl _ _) _
        clear hX e0 e1
        replace s := s.ext hx
        replace hb := ext_trans hb hx
        have c0 := bx.c0
        have c1 := bx.c1
        go_wp2_with fail
        refine (vca_any r.1 r.2.1 r.2.2.1 r.2.2.2 X s).mono ?_
        rintro e wa ⟨rfl, hx2⟩
        replace bx := bx.ext hx2
        replace s := s.ext hx2
        replace hb := ext_trans hb hx2
        clear hx hx2 c0 c1
        cases hv : VCa r.1 r.2.2.2 with
        | false =>
          have HR := hd (HK.out.trans (bstL_bad hlt' (by rw [HAT.out]; exact hv) k q p))
          have FIN := hd hb
          clear hb s bx hv
          go_wp2
          go_ret
          exact ⟨by rw [HR.out]; rfl, FIN.out⟩
        | true =>
          have HM : Hid (∀ y : Int, y = held r.2.2.2 names → p < y → BST (crs rs) names = bstL names ((crs rs).drop (k + 1)) (k + 1) k y) := hd (fun y hy hp => by
            have hm : p < held ((crs rs)[k]).2 names := by rw [HAT.out, ← hy]; exact hp
            rw [HK.out, bstL_more hlt' (by rw [HAT.out]; exact hv) k q p hm, HAT.out, hy])
          have HS : Hid (∀ y : Int, y = held r.2.2.2 names → ¬ p < y → BST (crs rs) names = bstL names ((crs rs).drop (k + 1)) (k + 1) q p) := hd (fun y hy hp => by
            have hm : ¬ p < held ((crs rs)[k]).2 names := by rw [HAT.out, ← hy]; exact hp
            rw [HK.out, bstL_less hlt' (by rw [HAT.out]; exact hv) k q p hm])
          clear HAT
          have HSS := hd s
          have HBB := hd hb
          have c0 := bx.c0
          have c1 := bx.c1
          have sn := H2.out.ext hb
          have SN := hd sn
          clear hv s hb bx sn hlt'
          go_wp2_with fail
          go_loop [9, 37] (fun n j => ∃ (u : Nat) (x : Int), u ≤ names.length ∧ j = .int .i64 u ∧ n = .int .i64 x ∧ Hid (x = held r.2.2.2 (names.take u)) ∧ 0 ≤ x ∧ x ≤ u) (fun _ j => names.length - (intOf j).toNat)
          case atStart => exact ⟨0, 0, Nat.zero_le _, rfl, rfl, hd rfl, by omega, by omega⟩
          case round =>
            obtain ⟨u, x, hu, rfl, rfl, HX, hx0, hx1⟩ := hrel
            by_cases hlu : u < names.length
            · obtain ⟨ad3, rfl, -, -⟩ := SlI.at SN.out hlu
              have a0 := SlI.at1 SN.out hlu
              have HW := hd (held_take (xs := r.2.2.2) hlu)
              obtain ⟨v, hv⟩ : ∃ v, v = names[u] := ⟨_, rfl⟩
              rw [← hv] at a0
              have HV := hd hv
              clear hv
              go_wp2_with fail
              refine (cont_any r.2.1 _ r.2.2.1 r.2.2.2 v _ HSS.out rfl).mono ?_
              rintro e wz ⟨rfl, rfl⟩
              cases hh : hasB r.2.2.2 v with
              | true =>
                have HX2 : Hid (x + 1 = held r.2.2.2 (names.take (u + 1))) := hd (by rw [HW.out, ← HV.out, if_pos hh, HX.out])
                clear hh
                go_wp2
                go_round
                case rel => exact ⟨u + 1, x + 1, by omega, by go_num, by go_num, HX2, by omega, by omega⟩
                case measure => simp [intOf]; omega
              | false =>
                have HX2 : Hid (x = held r.2.2.2 (names.take (u + 1))) := hd (by rw [HW.out, ← HV.out, if_neg (by rw [hh]; decide), HX.out]; omega)
                clear hh
                go_wp2
                go_round
                case rel => exact ⟨u + 1, x, by omega, by go_num, rfl, HX2, by omega, by omega⟩
                case measure => simp [intOf]; omega
            · obtain rfl : u = names.length := by omega
              have HX2 := hd (show x = held r.2.2.2 names by rw [HX.out, List.take_length])
              by_cases hm : p < x
              · have gm : decide (p < x) = true := decide_eq_true hm
                have HK2 := hd (HM.out x HX2.out (by omega))
                clear hm
                go_wp2_with fail
                go_roundw
                case rel => exact ⟨k + 1, k, x, by omega, by go_num, rfl, rfl, HK2, by omega, by omega, HBB.out⟩
                case measure => simp [intOf]; omega
              · have gm : decide (p < x) = false := decide_eq_false hm
                have HK2 := hd (HS.out x HX2.out (by omega))
                clear hm
                go_wp2_with fail
                go_roundw
                case rel => exact ⟨k + 1, q, p, by omega, by go_num, rfl, rfl, HK2, hp0, hp1, HBB.out⟩
                case measure => simp [intOf]; omega
      · obtain rfl : k = rs.length := by omega
        have HR := hd (show BST (crs rs) names = q by rw [HK.out, ← HCL.out]; exact bstL_done _ _ _ _ _)
        have FIN := hd hb
        clear hb
        go_wp2
        go_ret
        exact ⟨by rw [HR.out]; rfl, FIN.out⟩
end Go.Proofs.Ytjhhacmfhancpaa
