/- What the hosts' draws give. -/
import Derived.Test.YtbpadfeplmmeeaaRdr
import Derived.Test.YtbpadfeplmmeeaaMh
namespace Go.Proofs.Ytbpadfeplmmeeaa
open Go.RowKit
/-- Hosts were drawn: a slice of new memory. -/
def DrewH (w : World) (rb p : Nat) (e : Ending) (w' : World) : Prop :=
  ∃ (A : Option Addr) (c : Nat) (ys : List Ho) (q : Nat), e = .returned (.slice A ys.length c) ∧ SlH w' A c ys ∧ 1 ≤ ys.length ∧ ys.length ≤ 6 ∧ q ≤ p + 30 ∧ Rd w' rb q ∧ w.grownBy w' (some rb) ∧ (∀ ad, A = some ad → w.heap.size ≤ ad.block)
set_option maxHeartbeats 1000000 in
theorem anyHosts_any (rb p : Nat) (w : World) (h : Rd w rb p) (hp : p ≤ 999000) :
    Calls Try.prog 30 #[.pointer (some ⟨rb, 0, none⟩)] w (DrewH w rb p) := by
  have hlt := h.lt
  go_enter Try.func30, Try.ntmps30
  go_wp2_with fail
  refine (pick_any rb p 5 w h (by omega) (by omega)).mono ?_
  rintro e w1 ⟨x, rfl, -, -, hrd1, hg1, -⟩
  go_wp2_with fail
  refine (pick_any rb (p + 1) 5 w1 hrd1 (by omega) (by omega)).mono ?_
  rintro e w2 ⟨y, rfl, -, -, hrd2, hg2, -⟩
  have hG2 := grown_same hg1 hg2
  have ho3 : (w2.alloc (.cells (cho [(x, 0, (y == 0))]).toArray 30)).ownsRow w.heap.size 30 3 (.slice (some ⟨w2.heap.size, 0, none⟩) 1 1) 1 (cho [(x, 0, (y == 0))]) := own_mono (own_made w2 _ 3 _ 1 rfl (by decide)) hG2.size
  have hx3 : w.grownBy (w2.alloc (.cells (cho [(x, 0, (y == 0))]).toArray 30)) (some rb) := grown_same hG2 (World.grownBy_alloc w2 _ _)
  have hrd3 : Rd (w2.alloc (.cells (cho [(x, 0, (y == 0))]).toArray 30)) rb (p + 2) := hrd2.ext ((Below.refl _ _).alloc (Nat.le_refl _) _)
  have H := hd (And.intro ho3 (And.intro hx3 hrd3))
  clear ho3 hx3 hrd3
  go_wp2_with fail
  obtain ⟨ho3, hx3, hrd3⟩ := H.out
  refine (one_any rb (p + 2) (some ⟨w2.heap.size + 1, 0, none⟩) 6 [2, 3, 1, 4, 0, 5] _ (hrd3.ext ((Below.refl _ _).alloc (Nat.le_refl _) _)) (by omega) (by have := slI_made (w2.alloc (.cells (cho [(x, 0, (y == 0))]).toArray 30)) 3 [2, 3, 1, 4, 0, 5] (by decide); rw [World.size_alloc] at this; exact this) (by decide) (by decide) (fun ad e => by injection e with e; subst e; have := hG2.size; show w2.heap.size + 1 ≠ rb; omega)).mono ?_
  rintro e w4 ⟨z, rfl, hz, hrd4, hg4, -⟩
  have hx4 := grown_step (World.grownBy_alloc (w2.alloc (.cells (cho [(x, 0, (y == 0))]).toArray 30)) _ _) hg4 (fun j hj => .inl hj)
  have ho4 := own_far ho3 hx4 hlt
  have hG4 := grown_same hx3 hx4
  obtain ⟨k0, rfl, hk0⟩ : ∃ k : Nat, z = (k : Int) ∧ k ≤ 5 := by
    refine ⟨z.toNat, ?_, ?_⟩ <;> · simp only [List.mem_cons, List.not_mem_nil, or_false] at hz; omega
  clear hz hx4 hg4 ho3 hx3 hrd3 H hG2 hg2 hg1 hrd1 hrd2
  have H := hd (And.intro ho4 (And.intro hrd4 hG4))
  clear ho4 hrd4 hG4
  go_wp2
  go_loopw [3, 4] (fun v i wr => ∃ (k : Nat) (ys : List Ho) (q : Nat), k ≤ 5 ∧ i = .int .i64 k ∧ 1 ≤ ys.length ∧ ys.length + k ≤ 6 ∧ q + 3 * k ≤ p + 18 ∧ wr.ownsRow w.heap.size 30 3 v ys.length (cho ys) ∧ Rd wr rb q ∧ w.grownBy wr (some rb)) (fun _ i _ => (intOf i).toNat)
  case atStart =>
    obtain ⟨ho4, hrd4, hG4⟩ := H.out
    exact ⟨k0, [(x, 0, (y == 0))], p + 3, hk0, rfl, by simp, by simp; omega, by omega, ho4, hrd4, hG4⟩
  case round =>
    clear H
    obtain ⟨k, ys, q, hk, rfl, hl1, hl, hq, hown, hrd, hg⟩ := hrel
    by_cases hkz : 0 < k
    · have g0 : decide ((0 : Int) < (k : Int)) = true := decide_eq_true (by omega)
      have g1 : decide (0 < k) = true := decide_eq_true hkz
      go_wp2_with fail
      refine (one_any rb q (some ⟨wr.heap.size, 0, none⟩) 5 [0, 1, 2, 3, 100] _ (hrd.ext ((Below.refl _ _).alloc (Nat.le_refl _) _)) (by omega) (slI_made wr _ [0, 1, 2, 3, 100] (by decide)) (by decide) (by decide) (fun ad e => by injection e with e; subst e; have := hg.size; show wr.heap.size ≠ rb; omega)).mono ?_
      rintro e w5 ⟨a, rfl, -, hrd5, hg5, -⟩
      have hx5 : wr.grownBy w5 (some rb) := grown_step (World.grownBy_alloc wr _ _) hg5 (fun j hj => .inl hj)
      have hown5 := own_far hown hx5 hlt
      have hG5 := grown_same hg hx5
      clear hx5 hg5
      go_wp2_with fail
      refine (one_any rb (q + 1) (some ⟨w5.heap.size, 0, none⟩) 4 [0, 5, 10, 1000] _ (hrd5.ext ((Below.refl _ _).alloc (Nat.le_refl _) _)) (by omega) (slI_made w5 _ [0, 5, 10, 1000] (by decide)) (by decide) (by decide) (fun ad e => by injection e with e; subst e; have := hG5.size; show w5.heap.size ≠ rb; omega)).mono ?_
      rintro e w6 ⟨b, rfl, -, hrd6, hg6, -⟩
      have hx6 : w5.grownBy w6 (some rb) := grown_step (World.grownBy_alloc w5 _ _) hg6 (fun j hj => .inl hj)
      have hown6 := own_far hown5 hx6 hlt
      have hG6 := grown_same hG5 hx6
      clear hx6 hg6
      go_wp2_with fail
      refine (pick_any rb (q + 2) 5 w6 hrd6 (by omega) (by omega)).mono ?_
      rintro e w7 ⟨y, rfl, -, -, hrd7, hg7, -⟩
      have hown7 := own_far hown6 hg7 hlt
      have hG7 := grown_same hG6 hg7
      clear hg7
      go_wp2_with (at_builtin; refine wpList_app eltH (.tmp 19) (.tmp 30) (news := cho [(a, b, (y == 0))]) (m := 1) hown7 rfl (cho_one _) (by omega) (by omega) (Nat.le_trans hG7.size (Nat.le_refl _)) rfl rfl rfl rfl ?_; intro v' w8 hown8 hg8)
      go_roundw
      case rel => exact ⟨k - 1, ys ++ [(a, b, (y == 0))], q + 3, by omega, by go_num, by simp, by simp; omega, by omega, by rw [cho_append, List.length_append]; exact hown8, hrd7.grown hg8 (fun j hj => by have := own_ge hown7 j hj; omega), grown_step hG7 hg8 (fun j hj => .inr (own_ge hown7 j hj))⟩
      case measure => simp [intOf]; omega
    · have g0 : decide ((0 : Int) < (k : Int)) = false := decide_eq_false (by omega)
      have g1 : decide (0 < k) = false := decide_eq_false hkz
      go_wp2_with fail
      refine (pick_any rb q 16 wr hrd (by omega) (by omega)).mono ?_
      rintro e w5 ⟨t, rfl, -, -, hrd5, hg5, -⟩
      have hown5 := own_far hown hg5 hlt
      have hG5 := grown_same hg hg5
      clear hg5 hown hg hrd
      cases ht : (t == 0) with
      | true =>
        obtain ⟨g, cap, rfl, hgb, hgl, hnc, hcm⟩ := own_some hown5 (by omega)
        unfold maxLen at hcm
        go_wp2_with fail
        refine (pick_any rb (q + 1) ys.length w5 hrd5 (by omega) (by omega)).mono ?_
        rintro e w6 ⟨u, rfl, hu0, hu1, hrd6, hg6, -⟩
        have hu2 := hu1 (by omega)
        obtain ⟨i, rfl⟩ : ∃ i : Nat, u = (i : Int) := ⟨u.toNat, by omega⟩
        have hil : i < ys.length := by omega
        clear hu0 hu1 hu2
        have hown6 := own_far hown5 hg6 hlt
        have hG6 := grown_same hG5 hg6
        clear hg6
        go_wp2_with fail
        refine (one_any rb (q + 2) (some ⟨w6.heap.size, 0, none⟩) 3 [101, -1, 0] _ (hrd6.ext ((Below.refl _ _).alloc (Nat.le_refl _) _)) (by omega) (slI_made w6 _ [101, -1, 0] (by decide)) (by decide) (by decide) (fun ad e => by injection e with e; subst e; have := hG6.size; show w6.heap.size ≠ rb; omega)).mono ?_
        rintro e w7 ⟨a, rfl, -, hrd7, hg7, -⟩
        have hx7 : w6.grownBy w7 (some rb) := grown_step (World.grownBy_alloc w6 _ _) hg7 (fun j hj => .inl hj)
        have hown7 := own_far hown6 hx7 hlt
        have hG7 := grown_same hG6 hx7
        clear hx7 hg7
        go_wp2_with fail
        refine (one_any rb (q + 3) (some ⟨w7.heap.size, 0, none⟩) 3 [1001, 5, -1] _ (hrd7.ext ((Below.refl _ _).alloc (Nat.le_refl _) _)) (by omega) (slI_made w7 _ [1001, 5, -1] (by decide)) (by decide) (by decide) (fun ad e => by injection e with e; subst e; have := hG7.size; show w7.heap.size ≠ rb; omega)).mono ?_
        rintro e w8 ⟨b, rfl, -, hrd8, hg8, -⟩
        have hx8 : w7.grownBy w8 (some rb) := grown_step (World.grownBy_alloc w7 _ _) hg8 (fun j hj => .inl hj)
        have hown8 := own_far hown7 hx8 hlt
        have hG8 := grown_same hG7 hx8
        clear hx8 hg8 hown7 hown6 hown5
        obtain ⟨⟨z0, p0⟩, f0, ⟨z1, p1⟩, f1, ⟨z2, p2⟩, f2, hown9, hg9⟩ := own_put hown8 i hil a b false
        have H := hd (And.intro hown9 hg9)
        clear hown9 hg9
        go_wp2
        go_ret
        obtain ⟨hown9, hg9⟩ := H.out
        exact ⟨some ⟨g, 0, none⟩, cap, ys.set i (a, b, false), q + 4, by rw [List.length_set]; rfl, by unfold SlH; rw [List.length_set]; exact (show Sl _ 3 _ _ _ _ from (by obtain ⟨A2, c2, e2, hs2, _⟩ := Sl.of_own hown9; injection e2 with e2 e3 e4; subst e2 e4; exact hs2)), by rw [List.length_set]; omega, by rw [List.length_set]; omega, by omega, hrd8.grown hg9 (fun j hj => by injection hj with hj; omega), grown_step hG8 hg9 (fun j hj => .inr (by injection hj with hj; omega)), fun ad e => by injection e with e; subst e; exact hgb⟩
      | false =>
        go_wp2
        go_ret
        obtain ⟨A, c, rfl, hs, hA⟩ := Sl.of_own hown5
        exact ⟨A, c, ys, q + 1, rfl, hs, by omega, by omega, by omega, hrd5, hG5, hA⟩
/-- Hosts drawn from a code: of new memory. -/
def DrewH1 (w : World) (e : Ending) (w' : World) : Prop :=
  ∃ (A : Option Addr) (c : Nat) (ys : List Ho), e = .returned (.slice A ys.length c) ∧ SlH w' A c ys ∧ 1 ≤ ys.length ∧ ys.length ≤ 6 ∧ Below w.heap.size w w'
/-- Hosts and a number drawn from a code. -/
def DrewH2 (ns : List Int) (w : World) (e : Ending) (w' : World) : Prop :=
  ∃ (A : Option Addr) (c : Nat) (ys : List Ho) (v : Int), e = .returned (.tuple #[.slice A ys.length c, .int .i64 v]) ∧ SlH w' A c ys ∧ 1 ≤ ys.length ∧ ys.length ≤ 6 ∧ v ∈ ns ∧ Below w.heap.size w w'
end Go.Proofs.Ytbpadfeplmmeeaa
