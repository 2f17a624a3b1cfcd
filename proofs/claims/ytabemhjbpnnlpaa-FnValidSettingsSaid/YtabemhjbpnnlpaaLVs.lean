/- The walk of laws.FnValidSettings. -/
import Derived.Test.YtabemhjbpnnlpaaWVs
import Derived.Test.YtabemhjbpnnlpaaDrS
import Derived.Deep.RegionHeld3
namespace Go.Proofs.Ytabemhjbpnnlpaa
open Go.RowKit
set_option maxHeartbeats 1000000 in
theorem lawValidSettings (A : Option Addr) (n c : Nat) (w : World) (h : SlB w A n c) :
    Calls Try.prog 3 #[.slice A n c] w fun e w' => e = .returned (.bool true) ∧ Below w.heap.size w w' := by
  have hmax := h.2.1
  have hcap := h.1
  unfold maxLen at hmax
  by_cases hn : 1048576 < n
  · go_enter Try.func3, Try.ntmps3
    go_wp2
    go_ret
    exact ⟨rfl, Below.refl _ _⟩
  · go_enter Try.func3, Try.ntmps3
    go_wp2_with fail
    refine (drawValidSettings_any A n c w h).mono ?_
    rintro e w1 ⟨B, d, ys, rfl, hs, hl, hb1⟩
    have hbm := hs.max
    have hbc := hs.cap
    unfold maxLen at hbm
    go_wp2_with fail
    refine (vs_any B d ys w1 hs).mono ?_
    rintro e w2 ⟨rfl, hx2⟩
    have hs2 := hs.ext hx2
    have hb2 := ext_trans hb1 hx2
    clear hs hx2 hb1
    go_wp2_with fail
    refine (sVS_any B d ys w2 hs2).mono ?_
    rintro e w3 ⟨rfl, hx3⟩
    have hs3 := hs2.ext hx3
    have hb3 := ext_trans hb2 hx3
    clear hs2 hx3 hb2
    by_cases hv : VS ys = true
    · by_cases h0 : ys.length = 0
      · have h0b : ((ys.length : Int) == 0) = true := by simp [h0]
        clear h0
        go_wp2_with fail
        refine (sVS_any B d ys w3 hs3).mono ?_
        rintro e w4 ⟨rfl, hx4⟩
        have hb4 := ext_trans hb3 hx4
        go_wp2
        go_ret
        exact ⟨rfl, hb4⟩
      · have h0b : ((ys.length : Int) == 0) = false := beq_eq_false_iff_ne.2 (by omega)
        have hl10 := VS_len hv
        have hl10b : decide ((ys.length : Int) ≤ 10) = true := decide_eq_true (by omega)
        have hl10c : decide (ys.length ≤ 10) = true := decide_eq_true hl10
        obtain ⟨k, hk, hkl⟩ : ∃ k : Nat, (n : Int) % (ys.length : Int) = (k : Int) ∧ k < ys.length := ⟨n % ys.length, (Int.natCast_emod n ys.length).symm, Nat.mod_lt n (Nat.pos_of_ne_zero h0)⟩
        obtain ⟨zs, hzs⟩ : ∃ zs, zs = ys.take k ++ ys.drop (k + 1) := ⟨_, rfl⟩
        have HV : VS zs = true := by rw [hzs]; exact vset_without (q := -1) hv k
        have HL := hd (show 0 + k + (ys.length - (k + 1)) = zs.length by rw [hzs, List.length_append, List.length_take, List.length_drop]; omega)
        have HC := hd (show [] ++ cst (ys.take k) ++ cst (ys.drop (k + 1)) = cst zs by rw [hzs, cst_append]; rfl)
        clear hzs
        have hkl1 : (k : Int) + 1 ≤ (ys.length : Int) := by omega
        have hkc : (k : Int) ≤ (d : Int) := by omega
        have hkd : (k : Int) + 1 ≤ (d : Int) := by omega
        have hk0 : (0 : Int) ≤ (k : Int) + 1 := by omega
        have hkt : ((k : Int) + 1).toNat = k + 1 := by omega
        have hkw : IntKind.i64.wrap ((k : Int) + 1) = (k : Int) + 1 := by rw [IntKind.wrap_i64]; omega
        clear h0
        go_wp2_with fail
        have H0 := hd (show ((w3.alloc (.cells #[] 40)).drew).ownsRow w3.heap.size 40 2 (.slice (some ⟨w3.heap.size, 0, none⟩) 0 0) 0 [] from own_made w3 _ 2 [] 0 rfl (by decide))
        have H1 := hd (show Sl ((w3.alloc (.cells #[] 40)).drew) 2 B k d (cst (ys.take k)) from (hs3.take (m := k) (by omega)).alloc _)
        go_region_held3 (fun _ => True) (trivial) (first
          | ((refine step_apps eltS (.tmp 35) (.tmp 38) H0.out H1.out (cst_one _) (by omega) (by omega) (by simp) (by rfl) (by rfl) (by rfl) (by rfl) ?_; intro v1 w5 hown1 hg1; have hx5 : Below w3.heap.size w3 w5 := ((Below.refl _ _).alloc (Nat.le_refl _) _).drew.grown hg1 (by simp) (by intro k hk; simp [Value.ownBlock] at hk; omega)))
          | ((refine step_apps eltS (.tmp 39) (.tmp 43) hown1 ((hs3.ext hx5).drop (m := k + 1) (by omega)) (cst_one _) (by omega) (by omega) (by exact hx5.size) (by rfl) (by rfl) (by rfl) (by rfl) ?_; intro v2 w6 hown2 hg2; obtain ⟨A2, c2, rfl, hs6, _⟩ := slS_of_own hown2 HC.out HL.out; have hx6 : Below w3.heap.size w3 w6 := hx5.grown hg2 hx5.size (own_ge hown1)))
          | (go_at_call 17; refine (vs_any _ _ _ _ hs6).mono ?_; rintro e w7 ⟨rfl, hx7⟩; simp only [HV]))
        go_wp2
        all_goals
          go_ret
          exact ⟨rfl, ext_trans (ext_trans hb3 hx6) hx7⟩
    · have hv : VS ys = false := by simpa using hv
      go_wp2_with fail
      refine (sVS_any B d ys w3 hs3).mono ?_
      rintro e w4 ⟨rfl, hx4⟩
      have hb4 := ext_trans hb3 hx4
      go_wp2
      go_ret
      exact ⟨rfl, hb4⟩
end Go.Proofs.Ytabemhjbpnnlpaa
