/- What the leases' draws give: some leases, any leases. -/
import Derived.Test.YtkkikpmelpjllaaDrL
namespace Go.Proofs.Ytkkikpmelpjllaa
open Go.RowKit
/-- Leases were drawn, in a row of their own. -/
def DrewL (m : Nat) (w : World) (rb p : Nat) (e : Ending) (w' : World) : Prop :=
  ∃ (v : Value) (ys : List Le) (q : Nat), e = .returned v ∧ w'.ownsRow w.heap.size 30 4 v ys.length (cle ys) ∧ ys.length ≤ m ∧ q ≤ p + 12 * m ∧ Rd w' rb q ∧ w.grownBy w' (some rb)
set_option maxRecDepth 100000 in
set_option maxHeartbeats 2000000 in
theorem someLeases_any (rb p : Nat) (w : World) (h : Rd w rb p) (hp : p ≤ 900000) :
    Calls Try.prog 29 #[.pointer (some ⟨rb, 0, none⟩)] w (DrewL 16 w rb p) := by
  have hlt := h.lt
  have hx1 : Below w.heap.size w (w.alloc (.cells #[] 30)) := ext_alloc (Below.refl _ _) _
  have ho1 : (w.alloc (.cells #[] 30)).ownsRow w.heap.size 30 4 (.slice (some ⟨w.heap.size, 0, none⟩) 0 0) 0 [] := own_made w 30 4 [] 0 rfl (by decide)
  have hrd1 : Rd (w.alloc (.cells #[] 30)) rb p := h.ext hx1
  have H := hd (And.intro ho1 (And.intro hx1 hrd1))
  clear ho1 hx1 hrd1
  go_enter Try.func29, Try.ntmps29
  go_wp2_with fail
  refine (one_any rb p (some ⟨w.heap.size + 1, 0, none⟩) 7 [5, 8, 3, 12, 1, 0, 16] _ (H.out.2.2.ext ((Below.refl _ _).alloc (Nat.le_refl _) _)) (by omega) (by have := slI_made (w.alloc (.cells #[] 30)) 3 [5, 8, 3, 12, 1, 0, 16] (by decide); rw [World.size_alloc] at this; exact this) (by decide) (by decide) (fun ad e => by injection e with e; subst e; show w.heap.size + 1 ≠ rb; omega)).mono ?_
  rintro e w4 ⟨z, rfl, hz, hrd4, hg4, -⟩
  have hx4 := grown_step (World.grownBy_alloc (w.alloc (.cells #[] 30)) _ _) hg4 (fun j hj => .inl hj)
  have ho4 := own_far H.out.1 hx4 hlt
  have hG4 : w.grownBy w4 (some rb) := grown_same (grown_below H.out.2.1 _) hx4
  obtain ⟨k0, rfl, hk0⟩ : ∃ k : Nat, z = (k : Int) ∧ k ≤ 16 := by
    refine ⟨z.toNat, ?_, ?_⟩ <;> · simp only [List.mem_cons, List.not_mem_nil, or_false] at hz; omega
  replace H := hd (And.intro ho4 (And.intro hrd4 hG4))
  clear hz hx4 hg4 ho4 hrd4 hG4
  go_wp2
  go_loopw [3, 4, 5, 6, 7] (fun v n _ _ _ wr => ∃ (k : Nat) (ys : List Le) (q : Nat), n = .int .i64 k ∧ k ≤ 16 ∧ ys.length + k ≤ 16 ∧ q + 4 * k ≤ p + 65 ∧ wr.ownsRow w.heap.size 30 4 v ys.length (cle ys) ∧ Rd wr rb q ∧ w.grownBy wr (some rb)) (fun _ n _ _ _ _ => (intOf n).toNat)
  case atStart =>
    obtain ⟨ho4, hrd4, hG4⟩ := H.out
    exact ⟨k0, [], p + 1, rfl, hk0, by simp; omega, by omega, ho4, hrd4, hG4⟩
  case round =>
    clear H
    obtain ⟨k, ys, q, rfl, hk, hl, hq, hown, hrd, hg⟩ := hrel
    by_cases hkz : 0 < k
    · have g0 : decide ((0 : Int) < (k : Int)) = true := decide_eq_true (by omega)
      have g1 : decide (0 < k) = true := decide_eq_true hkz
      obtain ⟨A, c, rfl, -, -⟩ := Sl.of_own hown
      go_wp2_with fail
      refine (pick_any rb q 60 wr hrd (by omega) (by omega)).mono ?_
      rintro e w5 ⟨a, rfl, ha0, ha1, hrd5, hg5, -⟩
      have ha2 := ha1 (by omega)
      have hown5 := own_far hown hg5 hlt
      have hG5 := grown_same hg hg5
      clear ha1 hg5 hown hrd hg
      go_wp2_with fail
      refine (pick_any rb (q + 1) 4 w5 hrd5 (by omega) (by omega)).mono ?_
      rintro e w6 ⟨b, rfl, -, -, hrd6, hg6, -⟩
      have hown6 := own_far hown5 hg6 hlt
      have hG6 := grown_same hG5 hg6
      clear hg6 hown5 hrd5 hG5
      go_wp2_with fail
      refine (pick_any rb (q + 2) 5 w6 hrd6 (by omega) (by omega)).mono ?_
      rintro e w7 ⟨d, rfl, -, -, hrd7, hg7, -⟩
      have hown7 := own_far hown6 hg7 hlt
      have hG7 := grown_same hG6 hg7
      clear hg7 hown6 hrd6 hG6
      have hw1 : IntKind.i64.wrap (a + 1) = a + 1 := by rw [IntKind.wrap_i64]; omega
      go_wp2_with fail
      refine (pick_any rb (q + 3) 30 w7 hrd7 (by omega) (by omega)).mono ?_
      rintro e w8 ⟨f, rfl, hf0, hf1, hrd8, hg8, -⟩
      have hf2 := hf1 (by omega)
      have hown8 := own_far hown7 hg8 hlt
      have hG8 := grown_same hG7 hg8
      clear hf1 hg8 hown7 hrd7 hG7
      have hw2 : IntKind.i64.wrap (a + 1 + f) = a + 1 + f := by rw [IntKind.wrap_i64]; omega
      have hs : SlL w8 A c ys := by
        obtain ⟨A2, c2, e2, hs, -⟩ := Sl.of_own hown8
        injection e2 with e2 _ e3
        subst e2 e3
        exact hs
      have HA := hd (addLease_any A c ys (b, d, a, a + 1 + f) w8 hs (by omega))
      have H8 := hd (And.intro hown8 (And.intro hrd8 hG8))
      have hz8 := hG8.size
      clear hs hown8 hrd8 hG8
      go_wp2_with fail
      refine HA.out.mono ?_
      rintro e w9 ⟨v2, zs, ok, rfl, hown9, hz9, hx9⟩
      have H9 := hd (And.intro (own_mono hown9 hz8) (And.intro (own_ext H8.out.1 hx9) (And.intro (H8.out.2.1.ext hx9) (grown_ext H8.out.2.2 hx9))))
      have hwk : IntKind.i64.wrap ((k : Int) - 1) = (k : Int) - 1 := by rw [IntKind.wrap_i64]; omega
      clear hown9 hx9 H8 HA
      cases ok with
      | true =>
        go_wp2
        go_roundw
        case rel => exact ⟨k - 1, zs, q + 4, by go_num, by omega, by omega, by omega, H9.out.1, H9.out.2.2.1, H9.out.2.2.2⟩
        case measure => simp [intOf]; omega
      | false =>
        go_wp2
        go_roundw
        case rel => exact ⟨k - 1, ys, q + 4, by go_num, by omega, by omega, by omega, H9.out.2.1, H9.out.2.2.1, H9.out.2.2.2⟩
        case measure => simp [intOf]; omega
    · have g0 : decide ((0 : Int) < (k : Int)) = false := decide_eq_false (by omega)
      have g1 : decide (0 < k) = false := decide_eq_false hkz
      go_wp2
      go_ret
      exact ⟨_, ys, q, rfl, hown, by omega, by omega, hrd, hg⟩
set_option maxRecDepth 100000 in
set_option maxHeartbeats 2000000 in
theorem anyLeases_any (rb p : Nat) (w : World) (h : Rd w rb p) (hp : p ≤ 800000) :
    Calls Try.prog 10 #[.pointer (some ⟨rb, 0, none⟩)] w (DrewL 17 w rb p) := by
  have hlt := h.lt
  go_enter Try.func10, Try.ntmps10
  go_wp2_with fail
  refine (someLeases_any rb p w h (by omega)).mono ?_
  rintro e w1 ⟨v, ys, q, rfl, hown, hl, hq, hrd, hg⟩
  obtain ⟨A, c, rfl, -, -⟩ := Sl.of_own hown
  go_wp2_with fail
  refine (pick_any rb q 14 w1 hrd (by omega) (by omega)).mono ?_
  rintro e w2 ⟨y, rfl, -, -, hrd2, hg2, -⟩
  have hown2 := own_far hown hg2 hlt
  have hG2 := grown_same hg hg2
  clear hown hrd hg hg2
  by_cases hy : y = 0
  · have g0 : (y == 0) = true := beq_iff_eq.2 hy
    clear hy
    go_wp2_with fail
    refine (one_any rb (q + 1) (some ⟨w2.heap.size, 0, none⟩) 4 [0, 5, 6, -1] _ (hrd2.ext ((Below.refl _ _).alloc (Nat.le_refl _) _)) (by omega) (slI_made w2 _ [0, 5, 6, -1] (by decide)) (by decide) (by decide) (fun ad e => by injection e with e; subst e; have := hG2.size; show w2.heap.size ≠ rb; omega)).mono ?_
    rintro e w3 ⟨a, rfl, -, hrd3, hg3, -⟩
    have hx3 : w2.grownBy w3 (some rb) := grown_step (World.grownBy_alloc w2 _ _) hg3 (fun j hj => .inl hj)
    have hown3 := own_far hown2 hx3 hlt
    have hG3 := grown_same hG2 hx3
    clear hx3 hg3 hown2 hG2 hrd2
    go_wp2_with fail
    refine (one_any rb (q + 2) (some ⟨w3.heap.size, 0, none⟩) 3 [0, 4, 5] _ (hrd3.ext ((Below.refl _ _).alloc (Nat.le_refl _) _)) (by omega) (slI_made w3 _ [0, 4, 5] (by decide)) (by decide) (by decide) (fun ad e => by injection e with e; subst e; have := hG3.size; show w3.heap.size ≠ rb; omega)).mono ?_
    rintro e w4 ⟨b, rfl, -, hrd4, hg4, -⟩
    have hx4 : w3.grownBy w4 (some rb) := grown_step (World.grownBy_alloc w3 _ _) hg4 (fun j hj => .inl hj)
    have hown4 := own_far hown3 hx4 hlt
    have hG4 := grown_same hG3 hx4
    clear hx4 hg4 hown3 hG3 hrd3
    go_wp2_with fail
    refine (one_any rb (q + 3) (some ⟨w4.heap.size, 0, none⟩) 3 [10, 999, 1000] _ (hrd4.ext ((Below.refl _ _).alloc (Nat.le_refl _) _)) (by omega) (slI_made w4 _ [10, 999, 1000] (by decide)) (by decide) (by decide) (fun ad e => by injection e with e; subst e; have := hG4.size; show w4.heap.size ≠ rb; omega)).mono ?_
    rintro e w5 ⟨d, rfl, -, hrd5, hg5, -⟩
    have hx5 : w4.grownBy w5 (some rb) := grown_step (World.grownBy_alloc w4 _ _) hg5 (fun j hj => .inl hj)
    have hown5 := own_far hown4 hx5 hlt
    have hG5 := grown_same hG4 hx5
    clear hx5 hg5 hown4 hG4 hrd4
    go_wp2_with fail
    refine (one_any rb (q + 4) (some ⟨w5.heap.size, 0, none⟩) 4 [20, 10, 1000, 1001] _ (hrd5.ext ((Below.refl _ _).alloc (Nat.le_refl _) _)) (by omega) (slI_made w5 _ [20, 10, 1000, 1001] (by decide)) (by decide) (by decide) (fun ad e => by injection e with e; subst e; have := hG5.size; show w5.heap.size ≠ rb; omega)).mono ?_
    rintro e w6 ⟨f, rfl, -, hrd6, hg6, -⟩
    have hx6 : w5.grownBy w6 (some rb) := grown_step (World.grownBy_alloc w5 _ _) hg6 (fun j hj => .inl hj)
    have hown6 := own_far hown5 hx6 hlt
    have hG6 := grown_same hG5 hx6
    clear hx6 hg6 hown5 hG5 hrd5
    go_wp2_with (at_builtin; refine wpList_app eltLe (.tmp 9) (.tmp 23) (news := cle [(a, b, d, f)]) (m := 1) hown6 rfl (cle_one _) (by omega) (by omega) hG6.size rfl rfl rfl rfl ?_; intro v' w7 hown7 hg7; obtain ⟨A', c', e', -, -⟩ := Sl.of_own hown7; subst e')
    go_ret
    exact ⟨_, ys ++ [(a, b, d, f)], q + 5, rfl, by rw [cle_append, List.length_append]; exact hown7, by simp; omega, by omega, hrd6.grown hg7 (fun j hj => by have := own_ge hown6 j hj; omega), grown_step hG6 hg7 (fun j hj => .inr (own_ge hown6 j hj))⟩
  · have g0 : (y == 0) = false := beq_eq_false_iff_ne.2 hy
    clear hy
    go_wp2
    go_ret
    exact ⟨_, ys, q + 1, rfl, hown2, by omega, by omega, hrd2, hG2⟩
/-- Leases drawn from a code: of new memory. -/
def DrewL1 (w : World) (e : Ending) (w' : World) : Prop :=
  ∃ (A : Option Addr) (c : Nat) (ys : List Le), e = .returned (.slice A ys.length c) ∧ SlL w' A c ys ∧ Below w.heap.size w w'
set_option maxHeartbeats 400000 in
theorem drawPackLeases_any (A : Option Addr) (n c : Nat) (w : World) (h : SlB w A n c) :
    Calls Try.prog 4 #[.slice A n c] w (DrewL1 w) := by
  go_enter Try.func4, Try.ntmps4
  go_wp2_with fail
  refine (newReader_any A n c w h).mono ?_
  rintro e w1 ⟨rfl, hrd, hb, hz⟩
  go_wp2_with fail
  refine (anyLeases_any w.heap.size 0 w1 hrd (by omega)).mono ?_
  rintro e w2 ⟨v, ys, q, rfl, hown, _, _, _, hg⟩
  obtain ⟨B, d, rfl, hs, _⟩ := Sl.of_own hown
  go_wp2
  go_ret
  exact ⟨B, d, ys, rfl, hs, ext_grown hb hg (fun k e => by injection e with e; omega)⟩
end Go.Proofs.Ytkkikpmelpjllaa
