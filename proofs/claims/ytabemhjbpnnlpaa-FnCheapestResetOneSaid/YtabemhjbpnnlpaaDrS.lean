/- What the settings' draws give. -/
import Derived.Test.YtabemhjbpnnlpaaRdr
import Derived.Test.YtabemhjbpnnlpaaWSt
namespace Go.Proofs.Ytabemhjbpnnlpaa
open Go.RowKit
/-- Settings were drawn: a slice of new memory. -/
def DrewS (w : World) (rb p : Nat) (e : Ending) (w' : World) : Prop :=
  ∃ (A : Option Addr) (c : Nat) (ys : List St) (q : Nat), e = .returned (.slice A ys.length c) ∧ SlS w' A c ys ∧ ys.length ≤ 11 ∧ q ≤ p + 30 ∧ Rd w' rb q ∧ w.grownBy w' (some rb) ∧ (∀ ad, A = some ad → w.heap.size ≤ ad.block)
set_option maxHeartbeats 1000000 in
theorem anySettings_any (rb p : Nat) (w : World) (h : Rd w rb p) (hp : p ≤ 999000) :
    Calls Try.prog 35 #[.pointer (some ⟨rb, 0, none⟩)] w (DrewS w rb p) := by
  have hlt := h.lt
  go_enter Try.func35, Try.ntmps35
  go_wp2
  go_loopw [3, 4] (fun v i wr => ∃ (k : Nat) (ys : List St) (q : Nat), k ≤ 10 ∧ i = .int .i64 k ∧ ys.length ≤ k ∧ q ≤ p + 2 * k ∧ wr.ownsRow w.heap.size 40 2 v ys.length (cst ys) ∧ Rd wr rb q ∧ w.grownBy wr (some rb)) (fun _ i _ => 10 - (intOf i).toNat)
  case atStart => exact ⟨0, [], p, by omega, rfl, by simp, by omega, own_made w _ 2 [] 0 (by simp) (by unfold maxLen; omega), h.ext ((Below.refl _ _).alloc (Nat.le_refl _) _), World.grownBy_alloc _ _ _⟩
  case round =>
    obtain ⟨k, ys, q, hk, rfl, hl, hq, hown, hrd, hg⟩ := hrel
    by_cases hlt : k < 10
    · go_wp2_with fail
      refine (pick_any rb q 3 wr hrd (by omega) (by omega)).mono ?_
      rintro e w1 ⟨x, rfl, hx0, hx1, hrd1, hg1, -⟩
      have hown1 := own_far hown hg1 (by assumption)
      have hG1 := grown_same hg hg1
      by_cases hx : x = 0
      · have hb : (x == 0) = true := by simp [hx]
        clear hx hx1
        go_wp2_with fail
        refine (pick_any rb (q + 1) 21 w1 hrd1 (by omega) (by omega)).mono ?_
        rintro e w2 ⟨y, rfl, hy0, hy1, hrd2, hg2, -⟩
        have hown2 := own_far hown1 hg2 (by assumption)
        have hG2 := grown_same hG1 hg2
        go_wp2_with (at_builtin; refine wpList_app eltS (.tmp 13) (.tmp 18) (news := cst [((k : Int), y)]) (m := 1) hown2 rfl (cst_one _) (by omega) (by omega) (Nat.le_trans hG2.size (Nat.le_refl _)) rfl rfl rfl rfl ?_; intro v' w3 hown3 hg3)
        go_roundw
        case rel => exact ⟨k + 1, ys ++ [((k : Int), y)], q + 2, by omega, by go_num, by simp; omega, by omega, by rw [cst_append, List.length_append]; exact hown3, hrd2.grown hg3 (fun j hj => by have := own_ge hown2 j hj; omega), grown_step hG2 hg3 (fun j hj => .inr (own_ge hown2 j hj))⟩
        case measure => simp [intOf]; omega
      · have hb : (x == 0) = false := by simp [hx]
        clear hx hx1
        go_wp2_with fail
        go_roundw
        case rel => exact ⟨k + 1, ys, q + 1, by omega, by go_num, by omega, by omega, hown1, hrd1, hG1⟩
        case measure => simp [intOf]; omega
    · go_wp2_with fail
      refine (pick_any rb q 14 wr hrd (by omega) (by omega)).mono ?_
      rintro e w1 ⟨x, rfl, hx0, hx1, hrd1, hg1, -⟩
      have hown1 := own_far hown hg1 (by assumption)
      have hG1 := grown_same hg hg1
      by_cases hx : x = 0
      · have hb : (x == 0) = true := by simp [hx]
        clear hx hx1
        go_wp2_with fail
        refine (one_any rb (q + 1) (some ⟨w1.heap.size, 0, none⟩) 3 [10, 3, -1] _ (hrd1.ext ((Below.refl _ _).alloc (Nat.le_refl _) _)) (by omega) (slI_made w1 _ [10, 3, -1] (by decide)) (by decide) (by decide) (fun ad e => by injection e with e; subst e; have := hG1.size; show w1.heap.size ≠ rb; omega)).mono ?_
        rintro e w2 ⟨y, rfl, hy0, hrd2, hg2, -⟩
        have hx2 : w1.grownBy w2 (some rb) := grown_step (World.grownBy_alloc w1 _ _) hg2 (fun j hj => .inl hj)
        have hown2 := own_far hown1 hx2 (by assumption)
        have hG2 := grown_same hG1 hx2
        clear hx2
        go_wp2_with fail
        refine (one_any rb (q + 2) (some ⟨w2.heap.size, 0, none⟩) 3 [21, 5, -1] _ (hrd2.ext ((Below.refl _ _).alloc (Nat.le_refl _) _)) (by omega) (slI_made w2 _ [21, 5, -1] (by decide)) (by decide) (by decide) (fun ad e => by injection e with e; subst e; have := hG2.size; show w2.heap.size ≠ rb; omega)).mono ?_
        rintro e w3 ⟨z, rfl, hz0, hrd3, hg3, -⟩
        have hx3 : w2.grownBy w3 (some rb) := grown_step (World.grownBy_alloc w2 _ _) hg3 (fun j hj => .inl hj)
        have hown3 := own_far hown2 hx3 (by assumption)
        have hG3 := grown_same hG2 hx3
        clear hx3
        go_wp2_with (at_builtin; refine wpList_app eltS (.tmp 23) (.tmp 31) (news := cst [(y, z)]) (m := 1) hown3 rfl (cst_one _) (by omega) (by omega) (Nat.le_trans hG3.size (Nat.le_refl _)) rfl rfl rfl rfl ?_; intro v' w4 hown4 hg4)
        go_ret
        obtain ⟨A, c, rfl, hs, hA⟩ := Sl.of_own hown4
        exact ⟨A, c, ys ++ [(y, z)], q + 3, by simp, by unfold SlS; rw [cst_append, List.length_append]; exact hs, by simp; omega, by omega, hrd3.grown hg4 (fun j hj => by have := own_ge hown3 j hj; omega), grown_step hG3 hg4 (fun j hj => .inr (own_ge hown3 j hj)), hA⟩
      · have hb : (x == 0) = false := by simp [hx]
        clear hx hx1
        go_wp2
        go_ret
        obtain ⟨A, c, rfl, hs, hA⟩ := Sl.of_own hown1
        exact ⟨A, c, ys, q + 1, rfl, hs, by omega, by omega, hrd1, hG1, hA⟩
/-- Settings drawn from a code: of new memory. -/
def DrewS1 (w : World) (e : Ending) (w' : World) : Prop :=
  ∃ (A : Option Addr) (c : Nat) (ys : List St), e = .returned (.slice A ys.length c) ∧ SlS w' A c ys ∧ ys.length ≤ 11 ∧ Below w.heap.size w w'
set_option maxHeartbeats 400000 in
theorem drawValidSettings_any (A : Option Addr) (n c : Nat) (w : World) (h : SlB w A n c) :
    Calls Try.prog 16 #[.slice A n c] w (DrewS1 w) := by
  go_enter Try.func16, Try.ntmps16
  go_wp2_with fail
  refine (newReader_any A n c w h).mono ?_
  rintro e w1 ⟨rfl, hrd, hb, hz⟩
  go_wp2_with fail
  refine (anySettings_any w.heap.size 0 w1 hrd (by omega)).mono ?_
  rintro e w2 ⟨B, d, ys, q, rfl, hs, hl, _, hrd2, hg, _⟩
  go_wp2
  go_ret
  exact ⟨B, d, ys, rfl, hs, hl, ext_grown hb hg (fun k e => by injection e with e; omega)⟩
/-- Two lists of settings drawn from a code. -/
def DrewS2 (w : World) (e : Ending) (w' : World) : Prop :=
  ∃ (A A' : Option Addr) (c c' : Nat) (xs ys : List St), e = .returned (.tuple #[.slice A xs.length c, .slice A' ys.length c']) ∧ SlS w' A c xs ∧ SlS w' A' c' ys ∧ xs.length ≤ 11 ∧ ys.length ≤ 11 ∧ Below w.heap.size w w'
set_option maxHeartbeats 400000 in
theorem drawResetPlan_any (A : Option Addr) (n c : Nat) (w : World) (h : SlB w A n c) :
    Calls Try.prog 22 #[.slice A n c] w (DrewS2 w) := by
  go_enter Try.func22, Try.ntmps22
  go_wp2_with fail
  refine (newReader_any A n c w h).mono ?_
  rintro e w1 ⟨rfl, hrd, hb, hz⟩
  have hzle : w.heap.size + 1 ≤ w1.heap.size := by omega
  clear hz
  go_wp2_with fail
  refine (anySettings_any w.heap.size 0 w1 hrd (by omega)).mono ?_
  rintro e w2 ⟨B, d, ys, q, rfl, hs, hl, hq, hrd2, hg, hA⟩
  have hb2 := ext_grown hb hg (fun k e => by injection e with e; omega)
  go_wp2_with fail
  refine (anySettings_any w.heap.size q w2 hrd2 (by omega)).mono ?_
  rintro e w3 ⟨B3, d3, zs, q3, rfl, hs3, hl3, _, _, hg3, _⟩
  have hb3 := ext_grown hb2 hg3 (fun k e => by injection e with e; omega)
  have hs2 : SlS w3 B d ys := Sl.keepRow hs hg3 (fun ad e => by have := hA ad e; omega)
  clear hA
  go_wp2
  go_ret2
  exact ⟨B, B3, d, d3, ys, zs, rfl, hs2, hs3, hl, hl3, hb3⟩
end Go.Proofs.Ytabemhjbpnnlpaa
