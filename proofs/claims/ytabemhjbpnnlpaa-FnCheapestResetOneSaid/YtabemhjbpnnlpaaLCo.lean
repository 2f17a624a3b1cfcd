/- The walk of laws.FnCheapestResetOne. -/
import Derived.Test.YtabemhjbpnnlpaaLCr
namespace Go.Proofs.Ytabemhjbpnnlpaa
open Go.RowKit
theorem SlL.one {w : World} {A : Option Addr} {c : Nat} {rs : Rws} (h : SlL w A c rs) (h0 : 0 < rs.length) : SlL w A c [rs[0]] := by
  refine ⟨?_, fun r hr => ?_⟩
  · have := Sl.take h.1 (m := 1) h0
    cases rs with
    | nil => simp at h0
    | cons r t => simpa using this
  · rw [List.mem_singleton] at hr
    subst hr
    exact h.2 _ (List.getElem_mem h0)
set_option maxHeartbeats 1000000 in
theorem lawCheapestResetOne (A : Option Addr) (n c : Nat) (w : World) (h : SlB w A n c) :
    Calls Try.prog 15 #[.slice A n c] w fun e w' => e = .returned (.bool true) ∧ Below w.heap.size w w' := by
  by_cases hn : 1048576 < n
  · go_enter Try.func15, Try.ntmps15
    go_wp2
    go_ret
    exact ⟨rfl, Below.refl _ _⟩
  · go_enter Try.func15, Try.ntmps15
    go_wp2_with fail
    refine (drawCheapestReset_any A n c w h).mono ?_
    rintro e w1 ⟨B, B', d, d', rs, ys, rfl, s1, s2, hl1, hl2, hl3, hb⟩
    have hm1 := s1.1.max
    have hc1 := s1.1.cap
    unfold maxLen at hm1
    obtain ⟨x, hx0⟩ : ∃ x, x = cheap (lsts rs) ys := ⟨_, rfl⟩
    have HX := hd hx0
    have e0 : (x != x) = false := by simp
    have e1 : (x == x) = true := by simp
    have C1 := fun (W : World) (h1 : SlL W B d rs) (h2 : SlS W B' d' ys) => cheapest_any B B' d d' rs ys W h1 h2
    have C2 := fun (W : World) (h1 : SlL W B d rs) (h2 : SlS W B' d' ys) => sCheapest_any B B' d d' rs ys W h1 h2
    rw [← hx0] at C1 C2
    have H1 := hd C1
    have H2 := hd C2
    clear C1 C2 hx0
    go_wp2_with fail
    refine (H1.out _ s1 s2).mono ?_
    rintro e w1 ⟨rfl, hx⟩
    replace s1 := s1.ext hx; replace s2 := s2.ext hx; replace hb := ext_trans hb hx; clear hx
    go_wp2_with fail
    refine (H2.out _ s1 s2).mono ?_
    rintro e w1 ⟨rfl, hx⟩
    replace s1 := s1.ext hx; replace s2 := s2.ext hx; replace hb := ext_trans hb hx; clear hx
    by_cases hx0 : 0 ≤ x
    · have hsp := cheap_spec (xss := lsts rs) (ys := ys) (by rw [← HX.out]; exact hx0)
      rw [← HX.out] at hsp
      obtain ⟨v2, hall, h6, m, hm, hxm, hmin⟩ := hsp
      have hmr : m < rs.length := by rw [lsts_len] at hm; exact hm
      have h0 : 0 < rs.length := by omega
      have v0 : VS rs[0].2.2 = true := hall _ (by rw [← lsts_at rs 0 h0]; exact List.getElem_mem _)
      have hone := cheap_one v0 v2
      have hne := hd (show m ≠ 0 → eqL rs[0].2.2 ys = false from fun hm0 => decide_eq_false fun e => by
        have h1 := (hmin 0 (by rw [lsts_len]; exact h0)).2 (by omega)
        have h2 := (resetL_nil v0 v2).2 e
        rw [lsts_at rs 0 h0, h2] at h1
        simp at h1)
      have C3 := fun (W : World) (h1 : SlL W B d [rs[0]]) (h2 : SlS W B' d' ys) => cheapest_any B B' d d' [rs[0]] ys W h1 h2
      rw [show lsts [rs[0]] = [rs[0].2.2] from rfl, hone] at C3
      have H3 := hd C3
      have hd1 : (1 : Int) ≤ (d : Int) := by omega
      have hd2 : 1 ≤ d := by omega
      subst hxm
      clear hmin hall C3 hone
      go_wp2_with fail
      refine (H3.out _ (s1.one h0) s2).mono ?_
      rintro e w1 ⟨rfl, hx⟩
      replace s1 := s1.ext hx; replace s2 := s2.ext hx; replace hb := ext_trans hb hx; clear hx
      by_cases hm0 : m = 0
      · have e3 : ((m : Int) == 0) = true := beq_iff_eq.2 (by omega)
        clear hm0 s1 s2
        go_wp2
        go_ret
        exact ⟨rfl, hb⟩
      · have e3 : ((m : Int) == 0) = false := beq_eq_false_iff_ne.2 (by omega)
        obtain ⟨ad, rfl, hbl, hc0, s⟩ := s1.at h0
        rw [show ad.add 0 = ad from rfl] at hc0
        have e4 := hne.out hm0
        have h0i : (0 : Int) < (rs.length : Int) := by omega
        clear hm0 s1
        go_wp2_with fail
        refine (equalSettings_any _ _ _ _ _ _ _ s s2).mono ?_
        rintro e w1 ⟨rfl, hx⟩
        replace hb := ext_trans hb hx; clear hx
        go_wp2
        go_ret
        exact ⟨rfl, hb⟩
    · have e2 : decide (x < 0) = true := decide_eq_true (by omega)
      go_wp2_with fail
      refine (H2.out _ s1 s2).mono ?_
      rintro e w1 ⟨rfl, hx⟩
      replace hb := ext_trans hb hx; clear hx
      go_wp2
      go_ret
      exact ⟨rfl, hb⟩
end Go.Proofs.Ytabemhjbpnnlpaa
