/- What 'spoil' leaves. -/
import Derived.Test.YtmenknnncjbbpaaRdr
import Derived.Test.YtmenknnncjbbpaaWI
namespace Go.Proofs.Ytmenknnncjbbpaa
open Go.RowKit
/-- What 'spoil' leaves: a new list, the same or nearly. -/
def Spoiled (xs : List Int) (w : World) (rb p : Nat) (e : Ending) (w' : World) : Prop :=
  ∃ (A : Option Addr) (c : Nat) (ys : List Int) (q : Nat), e = .returned (.slice A ys.length c) ∧ SlI w' A c ys ∧ ys.length ≤ xs.length + 1 ∧ q ≤ p + 3 ∧ Rd w' rb q ∧ w.grownBy w' (some rb) ∧ (∀ ad, A = some ad → w.heap.size ≤ ad.block)
theorem spoiled_own {xs ys : List Int} {w w' : World} {rb p q : Nat} {v : Value} {n : Nat} (h : w'.ownsRow w.heap.size 3 1 v n (ci ys)) (hn : n = ys.length) (hl : ys.length ≤ xs.length + 1) (hq : q ≤ p + 3) (hr : Rd w' rb q) (hg : w.grownBy w' (some rb)) :
    Spoiled xs w rb p (.returned v) w' := by
  obtain ⟨A, c, rfl, hs, hA⟩ := slI_of_own h rfl hn
  exact ⟨A, c, ys, q, rfl, hs, hl, hq, hr, hg, hA⟩
set_option maxHeartbeats 1000000 in
theorem spoil_any (rb p : Nat) (A : Option Addr) (c : Nat) (xs : List Int) (n : Int) (w : World) (h : Rd w rb p) (hp : p ≤ 999000) (hs : SlI w A c xs) (hl : xs.length ≤ 1000) :
    Calls Try.prog 20 #[.pointer (some ⟨rb, 0, none⟩), .slice A xs.length c, .int .i64 n] w (Spoiled xs w rb p) := by
  have hlt := h.lt
  go_enter Try.func20, Try.ntmps20
  go_wp2_with fail
  refine (copyIntsO_any A c xs w hs (by omega)).mono ?_
  rintro e w1 ⟨v, rfl, hown1, hb1⟩
  have hrd1 := h.ext hb1
  have hG1 : w.grownBy w1 (some rb) := grown_below hb1 _
  clear hb1 hs h
  go_wp2_with fail
  refine (pick_any rb p 20 w1 hrd1 (by omega) (by omega)).mono ?_
  rintro e w2 ⟨x, rfl, hx0, -, hrd2, hg2, -⟩
  have hown2 := own_far hown1 hg2 hlt
  have hG2 := grown_same hG1 hg2
  have hz2 := hG2.size
  clear hown1 hG1 hg2 hrd1
  by_cases h0 : x = 0
  · have g0 : (x == 0) = true := by simp [h0]
    clear h0
    go_wp2_with (at_builtin; refine wpList_app eltI _ _ (news := ci [n]) (m := 1) hown2 rfl (ci_one _) (by omega) (by omega) hz2 (by rfl) (by rfl) (by rfl) (by rfl) ?_; intro v' w3 hown3 hg3)
    go_ret
    rw [← ci_append] at hown3
    exact spoiled_own hown3 (by simp) (by simp) (by omega) (hrd2.grown hg3 (fun k hk => by have := own_ge hown2 k hk; omega)) (grown_step hG2 hg3 (fun k hk => .inr (own_ge hown2 k hk)))
  · have g0 : (x == 0) = false := by simp [h0]
    by_cases h1 : x = 1
    · have g1 : (x == 1) = true := by simp [h1]
      clear h0 h1
      by_cases hx : 0 < xs.length
      · have g2 : decide ((0 : Int) < (xs.length : Int)) = true := decide_eq_true (by omega)
        have g3 : decide (0 < xs.length) = true := decide_eq_true hx
        obtain ⟨g, cap, rfl, hgb, hgl, hnc, hcm⟩ := own_some' hown2 hx
        obtain ⟨A2, c2, e2, hs2, -⟩ := Sl.of_own hown2
        injection e2 with e2 _ e3
        subst e2 e3
        have hd1 := hd (hs2.drop (m := 1) (by omega))
        unfold maxLen at hcm
        clear hs2 hown2
        by_cases hc1 : cap = 1
        · have HC := hd hc1
          have hc2 : cap ≤ 1 := by omega
          clear hc1
          go_wp2
          go_ret
          exact ⟨some ⟨g, 0, none⟩, 0, [], p + 1, by show Ending.returned (Value.slice (some ⟨g, 0, none⟩) (xs.length - 1) 0) = _; rw [show xs.length - 1 = 0 by omega]; rfl, Sl.nil _ _ _ _ (by decide), by simp, by omega, hrd2, hG2, fun ad e => by injection e with e; subst e; exact hgb⟩
        · have hd2 := hd1.out
          rw [if_neg hc1, ci_drop] at hd2
          have HD := hd hd2
          have hc2 : 2 ≤ cap := by omega
          clear hd1 hd2 hc1
          go_wp2
          go_ret
          exact ⟨some ⟨g, 1, none⟩, cap - 1, xs.drop 1, p + 1, by rw [List.length_drop]; rfl, by unfold SlI; rw [List.length_drop]; exact HD.out, by rw [List.length_drop]; omega, by omega, hrd2, hG2, fun ad e => by injection e with e; subst e; exact hgb⟩
      · have g2 : decide ((0 : Int) < (xs.length : Int)) = false := decide_eq_false (by omega)
        have g3 : decide (0 < xs.length) = false := decide_eq_false hx
        obtain ⟨A2, c2, rfl, hs2, hA2⟩ := slI_of_own hown2 rfl rfl
        clear hown2
        go_wp2
        go_ret
        exact ⟨A2, c2, xs, p + 1, rfl, hs2, by omega, by omega, hrd2, hG2, hA2⟩
    · have g1 : (x == 1) = false := by simp [h1]
      by_cases h2 : x = 2
      · have g2 : (x == 2) = true := by simp [h2]
        clear h0 h1 h2
        by_cases hx : 0 < xs.length
        · have g2 : decide ((0 : Int) < (xs.length : Int)) = true := decide_eq_true (by omega)
          have g3 : decide (0 < xs.length) = true := decide_eq_true hx
          obtain ⟨g, cap, rfl, hgb, hgl, hnc, hcm⟩ := own_some' hown2 hx
          unfold maxLen at hcm
          go_wp2_with fail
          refine (pick_any rb (p + 1) xs.length w2 hrd2 (by omega) (by omega)).mono ?_
          rintro e w3 ⟨y, rfl, hy0, hy1, hrd3, hg3, -⟩
          have hy1 := hy1 (by omega)
          obtain ⟨i, rfl⟩ : ∃ i : Nat, y = (i : Int) := ⟨y.toNat, by omega⟩
          have hown3 := own_far hown2 hg3 hlt
          have hG3 := grown_same hG2 hg3
          clear hown2 hrd2 hg3 hG2
          go_wp2_with fail
          refine (one_any rb (p + 2) (some ⟨w3.heap.size, 0, none⟩) 4 [-1, n, 0, 1] _ (hrd3.ext ((Below.refl _ _).alloc (Nat.le_refl _) _)) (by omega) (slI_made w3 _ [-1, n, 0, 1] (by simp)) (by simp) (by simp) (fun ad e => by injection e with e; subst e; have := hG3.size; show w3.heap.size ≠ rb; omega)).mono ?_
          rintro e w4 ⟨z, rfl, -, hrd4, hg4, -⟩
          have hx4 : w3.grownBy w4 (some rb) := grown_step (World.grownBy_alloc w3 _ _) hg4 (fun j hj => .inl hj)
          have hown4 := own_far hown3 hx4 hlt
          have hG4 := grown_same hG3 hx4
          clear hown3 hrd3 hg4 hx4 hG3
          obtain ⟨u0, hu0⟩ := own_cell' hown4 i (by rw [ci_length]; omega)
          have f0 := hown4.frozenAt i
          have s1 := hown4.stored i (.int .i64 z)
          rw [ci_set] at s1
          have HS := hd s1
          clear s1
          go_wp2
          go_ret
          exact spoiled_own HS.out.1 (by simp) (by simp) (by omega) (hrd4.grown HS.out.2 (fun k hk => by injection hk with hk; omega)) (grown_step hG4 HS.out.2 (fun k hk => .inr (by injection hk with hk; omega)))
        · have g2 : decide ((0 : Int) < (xs.length : Int)) = false := decide_eq_false (by omega)
          have g3 : decide (0 < xs.length) = false := decide_eq_false hx
          obtain ⟨A2, c2, rfl, hs2, hA2⟩ := slI_of_own hown2 rfl rfl
          clear hown2
          go_wp2
          go_ret
          exact ⟨A2, c2, xs, p + 1, rfl, hs2, by omega, by omega, hrd2, hG2, hA2⟩
      · have g2 : (x == 2) = false := by simp [h2]
        obtain ⟨A2, c2, rfl, hs2, hA2⟩ := slI_of_own hown2 rfl rfl
        clear hown2 h0 h1 h2
        go_wp2
        go_ret
        exact ⟨A2, c2, xs, p + 1, rfl, hs2, by omega, by omega, hrd2, hG2, hA2⟩
end Go.Proofs.Ytmenknnncjbbpaa
