/- The walk of laws.FnApplySettings. -/
import Derived.Test.YtabemhjbpnnlpaaLAp
namespace Go.Proofs.Ytabemhjbpnnlpaa
open Go.RowKit
set_option maxHeartbeats 1000000 in
theorem lawApplySettings (A : Option Addr) (n c : Nat) (w : World) (h : SlB w A n c) :
    Calls Try.prog 9 #[.slice A n c] w fun e w' => e = .returned (.bool true) ∧ Below w.heap.size w w' := by
  by_cases hn : 1048576 < n
  · go_enter Try.func9, Try.ntmps9
    go_wp2
    go_ret
    exact ⟨rfl, Below.refl _ _⟩
  · go_enter Try.func9, Try.ntmps9
    go_wp2_with fail
    refine (drawApplySettings_any A n c w h).mono ?_
    rintro e w1 ⟨B, B', d, d', xs, cs, rfl, s1, s2, hl1, hl2, hb⟩
    have hm2 := s2.max
    have hc2 := s2.cap
    unfold maxLen at hm2
    cases ho : appS xs cs with
    | some zs =>
      have HO := hd ho
      have HE := eqL_self zs
      have HV := appS_valid ho
      have hz10 := VS_len HV
      by_cases h0 : cs.length = 0
      · have h0b : ((cs.length : Int) == 0) = true := beq_iff_eq.2 (by omega)
        clear ho h0
        go_wp2_with fail
        refine (app_yes HO.out s1 s2).mono ?_
        rintro e w1 ⟨P, p, rfl, r, hx⟩
        replace s1 := s1.ext hx; replace s2 := s2.ext hx; replace hb := ext_trans hb hx; clear hx
        go_wp2_with fail
        refine (sapp_yes HO.out s1 s2).mono ?_
        rintro e w1 ⟨Q, q, rfl, t, hx⟩
        replace r := r.ext hx; replace s1 := s1.ext hx; replace s2 := s2.ext hx; replace hb := ext_trans hb hx; clear hx
        go_wp2_with fail
        refine (equalSettings_any _ _ _ _ _ _ _ r t).mono ?_
        rintro e w1 ⟨rfl, hx⟩
        replace r := r.ext hx; replace t := t.ext hx; replace hb := ext_trans hb hx; clear hx
        go_wp2_with fail
        refine (equalSettings_any _ _ _ _ _ _ _ r t).mono ?_
        rintro e w1 ⟨rfl, hx⟩
        replace hb := ext_trans hb hx; clear hx
        go_wp2
        go_ret
        exact ⟨rfl, hb⟩
      · have h0b : ((cs.length : Int) == 0) = false := beq_eq_false_iff_ne.2 (by omega)
        obtain ⟨m, hm, hmk⟩ : ∃ m : Nat, (cs.length : Int) - 1 = (m : Int) ∧ m + 1 = cs.length := ⟨cs.length - 1, by omega, by omega⟩
        have hml : m < cs.length := by omega
        have hmi : (m : Int) < (cs.length : Int) := by omega
        have HL := hd (appS_last ho m hml hmk)
        clear ho h0 hmk
        go_wp2_with fail
        refine (app_yes HO.out s1 s2).mono ?_
        rintro e w1 ⟨P, p, rfl, r, hx⟩
        replace s1 := s1.ext hx; replace s2 := s2.ext hx; replace hb := ext_trans hb hx; clear hx
        go_wp2_with fail
        refine (sapp_yes HO.out s1 s2).mono ?_
        rintro e w1 ⟨Q, q, rfl, t, hx⟩
        replace r := r.ext hx; replace s1 := s1.ext hx; replace s2 := s2.ext hx; replace hb := ext_trans hb hx; clear hx
        go_wp2_with fail
        refine (equalSettings_any _ _ _ _ _ _ _ r t).mono ?_
        rintro e w1 ⟨rfl, hx⟩
        replace r := r.ext hx; replace s1 := s1.ext hx; replace s2 := s2.ext hx; replace hb := ext_trans hb hx; clear hx
        clear t s1
        obtain ⟨ad, rfl, hbl, hc0, hc1⟩ := s2.at hml
        obtain ⟨a, ha⟩ : ∃ a, a = cs[m].1 := ⟨_, rfl⟩
        obtain ⟨b, hbv⟩ : ∃ b, b = cs[m].2 := ⟨_, rfl⟩
        rw [← ha] at hc0
        rw [← hbv] at hc1
        have HL' := hd (show lof zs a = b by rw [ha, hbv]; exact HL.out)
        have hbk := hd (heap_alloc_new w1 (.cells #[.int .i64 a, .int .i64 b] 40))
        have HR := hd r
        have hrm := r.max
        have hrc := r.cap
        unfold maxLen at hrm
        have HB := hd hb
        clear ha hbv HL s2 hb
        go_wp2_with fail
        go_loopw [10, 11] (fun v i wr => ∃ k : Nat, k ≤ zs.length ∧ i = .int .i64 k ∧ v = .int .i64 (lof (zs.take k) a) ∧ wr.heap[w1.heap.size]? = some (.cells #[.int .i64 a, .int .i64 b] 40 (0, 0)) ∧ Below w1.heap.size w1 wr) (fun _ i _ => zs.length - (intOf i).toNat)
        case atStart => exact ⟨0, by omega, rfl, rfl, hbk.out, (Below.refl _ _).alloc (Nat.le_refl _) _⟩
        case round =>
          obtain ⟨k, hk, rfl, rfl, hblk, hbx⟩ := hrel
          have c0 : wr.cell? ⟨w1.heap.size, 0, none⟩ = some (.int .i64 a) := by simp [World.cell?, hblk]
          have c1 : wr.cell? ⟨w1.heap.size, 1, none⟩ = some (.int .i64 b) := by simp [World.cell?, hblk]
          have HK := hd hblk
          clear hblk
          by_cases hlt : k < zs.length
          · obtain ⟨ad2, rfl, hbl2, hc2', hc3⟩ := (HR.out.ext hbx).at hlt
            by_cases he : zs[k].1 = a
            · have HS := hd ((lof_take zs a k hlt).trans (if_pos he))
              have e1 : (zs[k].1 == a) = true := by simp [he]
              clear he
              go_wp2_with fail
              go_quiet (fail)
              go_wp2
              go_roundw
              case rel => exact ⟨k + 1, by omega, by go_num, by rw [HS.out], HK.out, below_drewN hbx _⟩
              case measure => simp [intOf]; omega
            · have HS := hd ((lof_take zs a k hlt).trans (if_neg he))
              have e1 : (zs[k].1 == a) = false := by simp [he]
              clear he
              go_wp2_with fail
              go_quiet (fail)
              go_wp2
              go_roundw
              case rel => exact ⟨k + 1, by omega, by go_num, by rw [HS.out], HK.out, below_drewN hbx _⟩
              case measure => simp [intOf]; omega
          · obtain rfl : k = zs.length := by omega
            have e1 : (lof (zs.take zs.length) a == b) = true := by rw [List.take_length, HL'.out]; simp
            have r2 := HR.out.ext hbx
            have hb := ext_trans HB.out hbx
            clear HL' hbx
            rw [List.take_length] at e1 ⊢
            go_wp2_with fail
            refine (vs_any _ _ _ _ r2).mono ?_
            rintro e w1 ⟨rfl, hx⟩
            replace hb := ext_trans hb hx; clear hx
            go_wp2
            go_ret
            exact ⟨rfl, hb⟩
    | none =>
      have HO := hd ho
      have HE := eqL_self []
      clear ho
      go_wp2_with fail
      refine (app_no HO.out s1 s2).mono ?_
      rintro e w1 ⟨P, p, rfl, r, hx⟩
      replace s1 := s1.ext hx; replace s2 := s2.ext hx; replace hb := ext_trans hb hx; clear hx
      go_wp2_with fail
      refine (sapp_no HO.out s1 s2).mono ?_
      rintro e w1 ⟨Q, q, rfl, t, hx⟩
      replace r := r.ext hx; replace s1 := s1.ext hx; replace s2 := s2.ext hx; replace hb := ext_trans hb hx; clear hx
      go_wp2_with fail
      refine (equalSettings_any _ _ _ _ [] [] _ r t).mono ?_
      rintro e w1 ⟨rfl, hx⟩
      replace r := r.ext hx; replace t := t.ext hx; replace hb := ext_trans hb hx; clear hx
      go_wp2_with fail
      refine (equalSettings_any _ _ _ _ [] [] _ r t).mono ?_
      rintro e w1 ⟨rfl, hx⟩
      replace hb := ext_trans hb hx; clear hx
      go_wp2
      go_ret
      exact ⟨rfl, hb⟩
end Go.Proofs.Ytabemhjbpnnlpaa
