/- The walks of laws.FnCheapestReset, laws.FnCheapestResetOne. -/
import Derived.Test.YtabemhjbpnnlpaaWCr
import Derived.Test.YtabemhjbpnnlpaaDrC
import Derived.Test.YtabemhjbpnnlpaaWEq
namespace Go.Proofs.Ytabemhjbpnnlpaa
open Go.RowKit
set_option maxHeartbeats 1000000 in
theorem lawCheapestReset (A : Option Addr) (n c : Nat) (w : World) (h : SlB w A n c) :
    Calls Try.prog 14 #[.slice A n c] w fun e w' => e = .returned (.bool true) ∧ Below w.heap.size w w' := by
  by_cases hn : 1048576 < n
  · go_enter Try.func14, Try.ntmps14
    go_wp2
    go_ret
    exact ⟨rfl, Below.refl _ _⟩
  · go_enter Try.func14, Try.ntmps14
    go_wp2_with fail
    refine (drawCheapestReset_any A n c w h).mono ?_
    rintro e w1 ⟨B, B', d, d', rs, ys, rfl, s1, s2, hl1, hl2, hl3, hb⟩
    have hm1 := s1.1.max
    have hc1 := s1.1.cap
    unfold maxLen at hm1
    obtain ⟨x, hx0⟩ : ∃ x, x = cheap (lsts rs) ys := ⟨_, rfl⟩
    have HX := hd hx0
    have e0 : (x != x) = false := by simp
    have e1 : (x == x) = true := by simp
    have C1 := fun (W : World) (h1 : SlL W B d rs) (h2 : SlS W B' d' ys) => cheapest_any B B' d d' rs ys W h1 h2
    have C2 := fun (W : World) (h1 : SlL W B d rs) (h2 : SlS W B' d' ys) => sCheapest_any B B' d d' rs ys W h1 h2
    rw [← hx0] at C1 C2
    have H1 := hd C1
    have H2 := hd C2
    clear C1 C2 hx0
    go_wp2_with fail
    refine (H1.out _ s1 s2).mono ?_
    rintro e w1 ⟨rfl, hx⟩
    replace s1 := s1.ext hx; replace s2 := s2.ext hx; replace hb := ext_trans hb hx; clear hx
    go_wp2_with fail
    refine (H2.out _ s1 s2).mono ?_
    rintro e w1 ⟨rfl, hx⟩
    replace s1 := s1.ext hx; replace s2 := s2.ext hx; replace hb := ext_trans hb hx; clear hx
    by_cases hx0 : 0 ≤ x
    · have hsp := cheap_spec (xss := lsts rs) (ys := ys) (by rw [← HX.out]; exact hx0)
      rw [← HX.out] at hsp
      obtain ⟨v2, hall, h6, m, hm, hxm, hmin⟩ := hsp
      have hmr : m < rs.length := by rw [lsts_len] at hm; exact hm
      have hmn := hd hmin
      subst hxm
      obtain ⟨ad, hB, hbl, hc0, s⟩ := s1.at hmr
      have hmi : (m : Int) < (rs.length : Int) := by omega
      obtain ⟨l, hle⟩ : ∃ l, l = (resetL rs[m].2.2 ys).length := ⟨_, rfl⟩
      have HL := hd hle
      have hmn2 := hd (show ∀ (j : Nat) (hj : j < rs.length), l ≤ (resetL rs[j].2.2 ys).length ∧ (j < m → l < (resetL rs[j].2.2 ys).length) from fun j hj => by
        have := hmn.out j (by rw [lsts_len]; exact hj)
        rw [lsts_at rs m hmr, lsts_at rs j hj, ← hle] at this
        exact this)
      subst hB
      clear hmin hall hle hmn
      go_wp2_with fail
      refine (resetPlan_any _ _ _ _ _ _ _ s s2).mono ?_
      rintro e w1 ⟨P, p, rfl, r, hx⟩
      rw [← HL.out]
      replace s1 := s1.ext hx; replace s2 := s2.ext hx; replace hb := ext_trans hb hx; clear hx s hc0 r
      have S1 := hd s1
      have S2 := hd s2
      have HB := hd hb
      clear s1 s2 hb
      go_wp2_with fail
      go_loopw [7] (fun i wr => ∃ k : Nat, k ≤ rs.length ∧ i = .int .i64 k ∧ Below w1.heap.size w1 wr) (fun i _ => rs.length - (intOf i).toNat)
      case atStart => exact ⟨0, by omega, rfl, Below.refl _ _⟩
      case round =>
        obtain ⟨k, hk, rfl, hbx⟩ := hrel
        have hm1' := hm1
        by_cases hlt : k < rs.length
        · obtain ⟨ad2, hB2, hbl2, hc0, s⟩ := (S1.out.ext hbx).at hlt
          injection hB2 with hB2
          subst hB2
          have s2 := S2.out.ext hbx
          obtain ⟨q, hqe⟩ : ∃ q, q = (resetL rs[k].2.2 ys).length := ⟨_, rfl⟩
          have hq := hmn2.out k hlt
          rw [← hqe] at hq
          have hq1 := hq.1
          have hq2 := hq.2
          have HQ := hd hqe
          have hql : decide ((q : Int) < (l : Int)) = false := decide_eq_false (by omega)
          have hqn : decide (q < l) = false := decide_eq_false (by omega)
          clear hq hqe
          go_wp2_with fail
          refine (resetPlan_any _ _ _ _ _ _ _ s s2).mono ?_
          rintro e w1 ⟨P, p, rfl, r, hx⟩
          rw [← HQ.out]
          have HX2 := hd (ext_trans hbx hx)
          clear hx s s2 hc0 r hbx
          by_cases hkm : k < m
          · have hq3 := hq2 hkm
            have e3 : ((q : Int) == (l : Int)) = false := beq_eq_false_iff_ne.2 (by omega)
            clear hq2
            go_wp2_with fail
            go_roundw
            case rel => exact ⟨k + 1, by omega, by go_num, HX2.out⟩
            case measure => simp [intOf]; omega
          · have e4 : decide ((k : Int) < (m : Int)) = false := decide_eq_false (by omega)
            have e5 : decide (k < m) = false := decide_eq_false hkm
            clear hq2
            by_cases hql2 : q = l
            · have e3 : ((q : Int) == (l : Int)) = true := beq_iff_eq.2 (by omega)
              clear hql2
              go_wp2_with fail
              go_roundw
              case rel => exact ⟨k + 1, by omega, by go_num, HX2.out⟩
              case measure => simp [intOf]; omega
            · have e3 : ((q : Int) == (l : Int)) = false := beq_eq_false_iff_ne.2 (by omega)
              clear hql2
              go_wp2_with fail
              go_roundw
              case rel => exact ⟨k + 1, by omega, by go_num, HX2.out⟩
              case measure => simp [intOf]; omega
        · go_wp2
          go_ret
          exact ⟨rfl, ext_trans HB.out hbx⟩
    · have e2 : decide (x < 0) = true := decide_eq_true (by omega)
      go_wp2_with fail
      refine (H2.out _ s1 s2).mono ?_
      rintro e w1 ⟨rfl, hx⟩
      replace hb := ext_trans hb hx; clear hx
      go_wp2
      go_ret
      exact ⟨rfl, hb⟩
end Go.Proofs.Ytabemhjbpnnlpaa
