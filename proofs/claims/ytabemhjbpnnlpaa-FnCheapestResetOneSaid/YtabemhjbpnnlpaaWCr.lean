/- Contracts: impl.CheapestReset, spec.CheapestReset. -/
import Derived.Test.YtabemhjbpnnlpaaPCr
import Derived.Test.YtabemhjbpnnlpaaWRp
namespace Go.Proofs.Ytabemhjbpnnlpaa
open Go.RowKit
set_option maxHeartbeats 2000000 in
theorem cheapest_any (A A' : Option Addr) (c c' : Nat) (rs : Rws) (ys : List St) (w : World) (h : SlL w A c rs) (h' : SlS w A' c' ys) :
    Calls Try.prog 33 #[.slice A rs.length c, .slice A' ys.length c'] w fun e w' => e = .returned (.int .i64 (cheap (lsts rs) ys)) ∧ Below w.heap.size w w' := by
  have hmax := h.1.max
  have hcap := h.1.cap
  unfold maxLen at hmax
  by_cases h6 : 6 < rs.length
  · have HC := hd (show cheap (lsts rs) ys = -1 from if_neg fun hh => by rw [lsts_len] at hh; omega)
    have g1 : decide ((6 : Int) < (rs.length : Int)) = true := decide_eq_true (by omega)
    have g2 : decide (6 < rs.length) = true := decide_eq_true h6
    go_enter Try.func33, Try.ntmps33
    go_wp2
    go_ret
    exact ⟨by rw [HC.out]; rfl, Below.refl _ _⟩
  · have g1 : decide ((6 : Int) < (rs.length : Int)) = false := decide_eq_false (by omega)
    have g2 : decide (6 < rs.length) = false := decide_eq_false h6
    by_cases v2 : VS ys = true
    · have HC := hd (show cheap (lsts rs) ys = chpL ys (lsts rs) 0 (-1) 11 from if_pos ⟨by rw [lsts_len]; omega, v2⟩)
      have H1 := hd h
      have H2 := hd h'
      have V2 := hd v2
      have HLL := hd (lsts_len rs)
      go_enter Try.func33, Try.ntmps33
      go_wp2_with fail
      refine (vs_any _ _ _ _ h').mono ?_
      rintro e w1 ⟨rfl, hx1⟩
      clear h h'
      go_wp2_with fail
      go_loopw [5, 6, 20] (fun b f i wr => ∃ (k l : Nat) (q p : Int), k ≤ rs.length ∧ i = .int .i64 k ∧ b = .int .i64 q ∧ f = .int .i64 p ∧ Hid (cheap (lsts rs) ys = chpL ys ((lsts rs).drop k) k q l) ∧ -1 ≤ q ∧ (q < 0 → l = 11) ∧ (0 ≤ q → p = l) ∧ Below w.heap.size w wr) (fun _ _ i _ => rs.length - (intOf i).toNat)
      case atStart => exact ⟨0, 11, -1, 0, by omega, rfl, rfl, rfl, HC.out, by omega, fun _ => rfl, fun hh => by omega, hx1⟩
      case round =>
        clear hx1 v2
        obtain ⟨k, l, q, p, hk, rfl, rfl, rfl, HK, hq, hq1, hq2, hb⟩ := hrel
        have Q1 := hd hq1
        have Q2 := hd hq2
        clear hq1 hq2
        by_cases hlt : k < rs.length
        · obtain ⟨ad, rfl, hbl, hc0, s⟩ := (H1.out.ext hb).at hlt
          have s2 := H2.out.ext hb
          have hlt' : k < (lsts rs).length := by rw [HLL.out]; exact hlt
          have hla := lsts_at rs k hlt
          by_cases v1 : VS rs[k].2.2 = true
          · have P := fun (W : World) (hW : SlS W rs[k].1 rs[k].2.1 rs[k].2.2) (hW' : SlS W A' c' ys) => plan_any rs[k].1 A' rs[k].2.1 c' rs[k].2.2 ys W hW hW' (VS_mem v1) (VS_mem V2.out)
            rw [← resetL_valid v1 V2.out] at P
            have HP := hd P
            have hn10 := resetL_len rs[k].2.2 ys
            obtain ⟨m, hm⟩ : ∃ m, m = (resetL rs[k].2.2 ys).length := ⟨_, rfl⟩
            have HL1 := hd (show m < l → cheap (lsts rs) ys = chpL ys ((lsts rs).drop (k + 1)) (k + 1) k m from fun hh => HK.out.trans (by
              have := chpL_less hlt' (by rw [hla]; exact v1) k q l (by rw [hla, ← hm]; exact hh)
              rw [this]; congr 1; rw [hla, hm]))
            have HL2 := hd (show ¬ m < l → cheap (lsts rs) ys = chpL ys ((lsts rs).drop (k + 1)) (k + 1) q l from fun hh => HK.out.trans (chpL_more hlt' (by rw [hla]; exact v1) k q l (by rw [hla, ← hm]; exact hh)))
            rw [← hm] at hn10
            have HM := hd hm
            clear P hm hla hlt'
            go_wp2_with fail
            refine (vs_any _ _ _ _ s).mono ?_
            rintro e w1 ⟨rfl, hx⟩
            replace s := s.ext hx; replace s2 := s2.ext hx; replace hb := ext_trans hb hx; clear hx
            go_wp2_with fail
            refine (HP.out _ s s2).mono ?_
            rintro e w1 ⟨B, d, rfl, _, hx⟩
            rw [← HM.out]
            have HB := hd (ext_trans hb hx)
            clear hb hx s s2 hc0
            by_cases hq0 : q < 0
            · have hl11 := Q1.out hq0
              go_wp2_with fail
              go_roundw
              case rel => exact ⟨k + 1, m, k, m, by omega, by go_num, rfl, rfl, HL1.out (by omega), by omega, fun hh => by omega, fun _ => rfl, HB.out⟩
              case measure => simp [intOf]; omega
            · have hpl := Q2.out (by omega)
              have hq0' : 0 ≤ q := by omega
              by_cases hml : m < l
              · have hmp : (m : Int) < p := by omega
                clear hpl
                go_wp2_with fail
                go_roundw
                case rel => exact ⟨k + 1, m, k, m, by omega, by go_num, rfl, rfl, HL1.out hml, by omega, fun hh => by omega, fun _ => rfl, HB.out⟩
                case measure => simp [intOf]; omega
              · have hmp : p ≤ (m : Int) := by omega
                have hmb : decide ((m : Int) < p) = false := decide_eq_false (by omega)
                have HPL := hd hpl
                clear hpl
                go_wp2_with fail
                go_roundw
                case rel => exact ⟨k + 1, l, q, p, by omega, by go_num, rfl, rfl, HL2.out hml, by omega, fun hh => by omega, fun _ => HPL.out, HB.out⟩
                case measure => simp [intOf]; omega
          · have HC2 := hd (HK.out.trans (chpL_bad hlt' (by rw [hla]; exact v1) k q l))
            have v1 : VS rs[k].2.2 = false := by simpa using v1
            clear hla hlt'
            go_wp2_with fail
            refine (vs_any _ _ _ _ s).mono ?_
            rintro e w1 ⟨rfl, hx⟩
            replace hb := ext_trans hb hx; clear hx
            go_wp2
            go_ret
            exact ⟨by rw [HC2.out]; rfl, hb⟩
        · obtain rfl : k = rs.length := by omega
          have HC2 := hd (show cheap (lsts rs) ys = q by have := HK.out; rwa [← HLL.out, chpL_done] at this)
          go_wp2
          go_ret
          exact ⟨by rw [HC2.out]; rfl, hb⟩
    · have HC := hd (show cheap (lsts rs) ys = -1 from if_neg fun hh => v2 hh.2)
      have v2 : VS ys = false := by simpa using v2
      go_enter Try.func33, Try.ntmps33
      go_wp2_with fail
      refine (vs_any _ _ _ _ h').mono ?_
      rintro e w1 ⟨rfl, hx1⟩
      clear h h'
      go_wp2
      go_ret
      exact ⟨by rw [HC.out]; rfl, hx1⟩
set_option maxHeartbeats 2000000 in
theorem sCheapest_any (A A' : Option Addr) (c c' : Nat) (rs : Rws) (ys : List St) (w : World) (h : SlL w A c rs) (h' : SlS w A' c' ys) :
    Calls Try.prog 34 #[.slice A rs.length c, .slice A' ys.length c'] w fun e w' => e = .returned (.int .i64 (cheap (lsts rs) ys)) ∧ Below w.heap.size w w' := by
  have hmax := h.1.max
  have hcap := h.1.cap
  unfold maxLen at hmax
  by_cases h6 : 6 < rs.length
  · have HC := hd (show cheap (lsts rs) ys = -1 from if_neg fun hh => by rw [lsts_len] at hh; omega)
    have g1 : decide ((6 : Int) < (rs.length : Int)) = true := decide_eq_true (by omega)
    have g2 : decide (6 < rs.length) = true := decide_eq_true h6
    go_enter Try.func34, Try.ntmps34
    go_wp2
    go_ret
    exact ⟨by rw [HC.out]; rfl, Below.refl _ _⟩
  · have g1 : decide ((6 : Int) < (rs.length : Int)) = false := decide_eq_false (by omega)
    have g2 : decide (6 < rs.length) = false := decide_eq_false h6
    by_cases v2 : VS ys = true
    · have HC := hd (show cheap (lsts rs) ys = chpL ys (lsts rs) 0 (-1) 11 from if_pos ⟨by rw [lsts_len]; omega, v2⟩)
      have H1 := hd h
      have H2 := hd h'
      have HLL := hd (lsts_len rs)
      go_enter Try.func34, Try.ntmps34
      go_wp2_with fail
      refine (svs_any _ _ _ _ h').mono ?_
      rintro e w1 ⟨rfl, hx1⟩
      clear h h'
      go_wp2_with fail
      go_loopw [5, 6, 7] (fun b f i wr => ∃ (k l : Nat) (q : Int), k ≤ rs.length ∧ i = .int .i64 k ∧ b = .int .i64 q ∧ f = .int .i64 l ∧ Hid (cheap (lsts rs) ys = chpL ys ((lsts rs).drop k) k q l) ∧ Below w.heap.size w wr) (fun _ _ i _ => rs.length - (intOf i).toNat)
      case atStart => exact ⟨0, 11, -1, by omega, rfl, rfl, rfl, HC.out, hx1⟩
      case round =>
        clear hx1 v2
        obtain ⟨k, l, q, hk, rfl, rfl, rfl, HK, hb⟩ := hrel
        by_cases hlt : k < rs.length
        · obtain ⟨ad, rfl, hbl, hc0, s⟩ := (H1.out.ext hb).at hlt
          have s2 := H2.out.ext hb
          have hlt' : k < (lsts rs).length := by rw [HLL.out]; exact hlt
          have hla := lsts_at rs k hlt
          have hcx : ∀ W, Below wr.heap.size wr W → W.cell? (ad.add k) = some (.slice rs[k].1 rs[k].2.2.length rs[k].2.1) := fun W hW => (hW.cell (by rw [blk_add]; exact hbl)).trans hc0
          have HCX := hd hcx
          clear hcx
          by_cases v1 : VS rs[k].2.2 = true
          · have hn10 := resetL_len rs[k].2.2 ys
            obtain ⟨m, hm⟩ : ∃ m, m = (resetL rs[k].2.2 ys).length := ⟨_, rfl⟩
            have HL1 := hd (show m < l → cheap (lsts rs) ys = chpL ys ((lsts rs).drop (k + 1)) (k + 1) k m from fun hh => HK.out.trans (by
              have := chpL_less hlt' (by rw [hla]; exact v1) k q l (by rw [hla, ← hm]; exact hh)
              rw [this]; congr 1; rw [hla, hm]))
            have HL2 := hd (show ¬ m < l → cheap (lsts rs) ys = chpL ys ((lsts rs).drop (k + 1)) (k + 1) q l from fun hh => HK.out.trans (chpL_more hlt' (by rw [hla]; exact v1) k q l (by rw [hla, ← hm]; exact hh)))
            rw [← hm] at hn10
            have HM := hd hm
            clear hm hla hlt'
            go_wp2_with fail
            refine (svs_any _ _ _ _ s).mono ?_
            rintro e wy ⟨rfl, hx⟩
            have hc1 := HCX.out _ hx
            replace s := s.ext hx; replace s2 := s2.ext hx; replace hb := ext_trans hb hx; clear hx hc0
            go_wp2_with fail
            refine (sResetPlan_any _ _ _ _ _ _ _ s s2).mono ?_
            rintro e w1 ⟨B, d, rfl, _, hx⟩
            rw [← HM.out]
            have HB := hd (ext_trans hb hx)
            clear hb hx s s2 hc1
            by_cases hml : m < l
            · go_wp2_with fail
              go_roundw
              case rel => exact ⟨k + 1, m, k, by omega, by go_num, rfl, rfl, HL1.out hml, HB.out⟩
              case measure => simp [intOf]; omega
            · go_wp2_with fail
              go_roundw
              case rel => exact ⟨k + 1, l, q, by omega, by go_num, rfl, rfl, HL2.out hml, HB.out⟩
              case measure => simp [intOf]; omega
          · have HC2 := hd (HK.out.trans (chpL_bad hlt' (by rw [hla]; exact v1) k q l))
            have v1 : VS rs[k].2.2 = false := by simpa using v1
            clear hla hlt'
            go_wp2_with fail
            refine (svs_any _ _ _ _ s).mono ?_
            rintro e w1 ⟨rfl, hx⟩
            replace hb := ext_trans hb hx; clear hx
            go_wp2
            go_ret
            exact ⟨by rw [HC2.out]; rfl, hb⟩
        · obtain rfl : k = rs.length := by omega
          have HC2 := hd (show cheap (lsts rs) ys = q by have := HK.out; rwa [← HLL.out, chpL_done] at this)
          go_wp2
          go_ret
          exact ⟨by rw [HC2.out]; rfl, hb⟩
    · have HC := hd (show cheap (lsts rs) ys = -1 from if_neg fun hh => v2 hh.2)
      have v2 : VS ys = false := by simpa using v2
      go_enter Try.func34, Try.ntmps34
      go_wp2_with fail
      refine (svs_any _ _ _ _ h').mono ?_
      rintro e w1 ⟨rfl, hx1⟩
      clear h h'
      go_wp2
      go_ret
      exact ⟨by rw [HC.out]; rfl, hx1⟩
end Go.Proofs.Ytabemhjbpnnlpaa
