/- Contracts: impl.ResetPlan, spec.ResetPlan, spec.apply. -/
import Derived.Test.YtabemhjbpnnlpaaWSt
import Derived.Test.YtabemhjbpnnlpaaWVs
namespace Go.Proofs.Ytabemhjbpnnlpaa
open Go.RowKit
theorem rwS_nil (w : World) (B : Nat) (e : TypeId) : RwS w B e none 0 [] := ⟨Sl.nil w 2 none 0 (Nat.zero_le _), fun h => absurd h (by simp)⟩
set_option maxHeartbeats 1000000 in
theorem resetPlan_any (A A' : Option Addr) (c c' : Nat) (xs ys : List St) (w : World) (h : SlS w A c xs) (h' : SlS w A' c' ys) :
    Calls Try.prog 23 #[.slice A xs.length c, .slice A' ys.length c'] w (NewS 40 (resetL xs ys) w) := by
  by_cases v1 : VS xs = true
  · by_cases v2 : VS ys = true
    · have HR := hd (show resetL xs ys = planL (vals xs) (vals ys) 10 from if_pos ⟨v1, v2⟩)
      have P := fun W hW hW' => plan_any A A' c c' xs ys W hW hW' (VS_mem v1) (VS_mem v2)
      rw [← HR.out] at P
      have HP := hd P
      clear P HR
      go_enter Try.func23, Try.ntmps23
      go_wp2_with fail
      refine (vs_any A c xs w h).mono ?_
      rintro e w1 ⟨rfl, hx1⟩
      have h1 := h.ext hx1
      have h1' := h'.ext hx1
      clear h h'
      go_wp2_with fail
      refine (vs_any A' c' ys w1 h1').mono ?_
      rintro e w2 ⟨rfl, hx2⟩
      have h2 := h1.ext hx2
      have h2' := h1'.ext hx2
      have hb := ext_trans hx1 hx2
      clear h1 h1' hx1 hx2
      go_wp2_with fail
      refine (HP.out w2 h2 h2').mono ?_
      rintro e w3 ⟨B, d, rfl, hr, hx3⟩
      go_wp2
      go_ret
      exact ⟨B, d, rfl, hr.low hb.size, ext_trans hb hx3⟩
    · have HR := hd (show resetL xs ys = [] from if_neg fun hh => v2 hh.2)
      have v2 : VS ys = false := by simpa using v2
      go_enter Try.func23, Try.ntmps23
      go_wp2_with fail
      refine (vs_any A c xs w h).mono ?_
      rintro e w1 ⟨rfl, hx1⟩
      have h1' := h'.ext hx1
      clear h h'
      go_wp2_with fail
      refine (vs_any A' c' ys w1 h1').mono ?_
      rintro e w2 ⟨rfl, hx2⟩
      have hb := ext_trans hx1 hx2
      clear h1' hx1 hx2
      go_wp2
      go_ret
      exact ⟨none, 0, by rw [HR.out]; rfl, by rw [HR.out]; exact rwS_nil _ _ _, hb⟩
  · have HR := hd (show resetL xs ys = [] from if_neg fun hh => v1 hh.1)
    have v1 : VS xs = false := by simpa using v1
    go_enter Try.func23, Try.ntmps23
    go_wp2_with fail
    refine (vs_any A c xs w h).mono ?_
    rintro e w1 ⟨rfl, hx1⟩
    clear h h'
    go_wp2
    go_ret
    exact ⟨none, 0, by rw [HR.out]; rfl, by rw [HR.out]; exact rwS_nil _ _ _, hx1⟩

set_option maxHeartbeats 1000000 in
theorem sResetPlan_any (A A' : Option Addr) (c c' : Nat) (xs ys : List St) (w : World) (h : SlS w A c xs) (h' : SlS w A' c' ys) :
    Calls Try.prog 25 #[.slice A xs.length c, .slice A' ys.length c'] w (NewS 40 (resetL xs ys) w) := by
  by_cases v1 : VS xs = true
  · by_cases v2 : VS ys = true
    · have HR := hd (show resetL xs ys = planL (fun n => vof xs n) (fun n => vof ys n) 10 from (if_pos ⟨v1, v2⟩).trans (planL_congr 10 (fun n _ => vals_vof v1 n) (fun n _ => vals_vof v2 n)))
      have H1 := hd h
      have H2 := hd h'
      go_enter Try.func25, Try.ntmps25
      go_wp2_with fail
      refine (svs_any A c xs _ (h.alloc _)).mono ?_
      rintro e w1 ⟨rfl, hx1⟩
      have hx1' : Below w.heap.size w w1 := ((Below.refl _ _).alloc (Nat.le_refl _) _).trans (hx1.mono (by simp))
      have hz : w.heap.size < w1.heap.size := by have := hx1.size; rw [World.size_alloc] at this; omega
      have ho : w1.ownsRow w.heap.size 40 2 (.slice (some ⟨w.heap.size, 0, none⟩) 0 0) 0 [] := own_ext (own_made w _ 2 [] 0 rfl (by decide)) hx1
      have h1 := h.ext hx1'
      have h1' := h'.ext hx1'
      clear h h' hx1
      go_wp2_with fail
      refine (svs_any A' c' ys w1 h1').mono ?_
      rintro e w2 ⟨rfl, hx2⟩
      have h2 := h1.ext hx2
      have h2' := h1'.ext hx2
      have hb := ext_trans hx1' hx2
      have ho2 := own_ext ho hx2
      clear h1 h1' hx1' hx2 ho hz
      go_wp2_with fail
      go_loopw [5, 6] (fun v i wr => ∃ k : Nat, k ≤ 10 ∧ i = .int .i64 k ∧ wr.ownsRow w.heap.size 40 2 v (planL (fun n => vof xs n) (fun n => vof ys n) k).length (cst (planL (fun n => vof xs n) (fun n => vof ys n) k)) ∧ Below w.heap.size w wr) (fun _ i _ => 10 - (intOf i).toNat)
      case atStart => exact ⟨0, by omega, rfl, ho2, hb⟩
      case round =>
        clear ho2 h2 h2' hb
        obtain ⟨k, hk, rfl, hown, hb⟩ := hrel
        have s1 := H1.out.ext hb
        have s2 := H2.out.ext hb
        by_cases hlt : k < 10
        · have hl := planL_len (fun n => vof xs n) (fun n => vof ys n) k
          go_wp2_with fail
          refine (valueOf_any A c xs k wr s1).mono ?_
          rintro e wx ⟨rfl, rfl⟩
          go_wp2_with fail
          refine (valueOf_any A' c' ys k wr s2).mono ?_
          rintro e wx ⟨rfl, rfl⟩
          by_cases hne : vof xs k = vof ys k
          · have e1 : (vof xs k != vof ys k) = false := by simp [hne]
            have e2 : (vof xs k == vof ys k) = true := by simp [hne]
            have HP := hd (show planL (fun n => vof xs n) (fun n => vof ys n) (k + 1) = planL (fun n => vof xs n) (fun n => vof ys n) k by rw [planL_succ, if_pos hne]; simp)
            clear hne
            go_wp2_with fail
            go_roundw
            case rel => exact ⟨k + 1, by omega, by go_num, by rw [HP.out]; exact hown, hb⟩
            case measure => simp [intOf]; omega
          · have e1 : (vof xs k != vof ys k) = true := by simp [hne]
            have e2 : (vof xs k == vof ys k) = false := by simp [hne]
            have HP := hd (show planL (fun n => vof xs n) (fun n => vof ys n) (k + 1) = planL (fun n => vof xs n) (fun n => vof ys n) k ++ [((k : Int), vof ys k)] by rw [planL_succ, if_neg hne])
            clear hne
            go_wp2_with fail
            refine (valueOf_any A' c' ys k wr s2).mono ?_
            rintro e wx ⟨rfl, rfl⟩
            go_wp2_with (at_builtin; refine wpList_app eltS (.tmp 27) (.tmp 33) (news := cst [((k : Int), vof ys k)]) (m := 1) hown rfl (cst_one _) (by omega) (by omega) hb.size (by rfl) (by rfl) (by rfl) (by rfl) ?_; intro v' w3 hown3 hg3)
            have hx3 := hb.grown hg3 hb.size (own_ge hown)
            go_roundw
            case rel => exact ⟨k + 1, by omega, by go_num, by rw [HP.out, cst_append, List.length_append]; exact hown3, hx3⟩
            case measure => simp [intOf]; omega
        · obtain rfl : k = 10 := by omega
          obtain ⟨A2, c2, rfl, hr⟩ := rwS_of_own hown rfl rfl
          clear hown
          go_wp2
          go_ret
          exact ⟨A2, c2, by rw [HR.out]; rfl, by rw [HR.out]; exact hr, hb⟩
    · have HR := hd (show resetL xs ys = [] from if_neg fun hh => v2 hh.2)
      have v2 : VS ys = false := by simpa using v2
      go_enter Try.func25, Try.ntmps25
      go_wp2_with fail
      refine (svs_any A c xs _ (h.alloc _)).mono ?_
      rintro e w1 ⟨rfl, hx1⟩
      have hx1' : Below w.heap.size w w1 := ((Below.refl _ _).alloc (Nat.le_refl _) _).trans (hx1.mono (by simp))
      have h1' := h'.ext hx1'
      clear h h' hx1
      go_wp2_with fail
      refine (svs_any A' c' ys w1 h1').mono ?_
      rintro e w2 ⟨rfl, hx2⟩
      have hb := ext_trans hx1' hx2
      clear h1' hx1' hx2
      go_wp2
      go_ret
      exact ⟨none, 0, by rw [HR.out]; rfl, by rw [HR.out]; exact rwS_nil _ _ _, hb⟩
  · have HR := hd (show resetL xs ys = [] from if_neg fun hh => v1 hh.1)
    have v1 : VS xs = false := by simpa using v1
    go_enter Try.func25, Try.ntmps25
    go_wp2_with fail
    refine (svs_any A c xs _ (h.alloc _)).mono ?_
    rintro e w1 ⟨rfl, hx1⟩
    have hx1' : Below w.heap.size w w1 := ((Below.refl _ _).alloc (Nat.le_refl _) _).trans (hx1.mono (by simp))
    clear h h' hx1
    go_wp2
    go_ret
    exact ⟨none, 0, by rw [HR.out]; rfl, by rw [HR.out]; exact rwS_nil _ _ _, hx1'⟩
end Go.Proofs.Ytabemhjbpnnlpaa
