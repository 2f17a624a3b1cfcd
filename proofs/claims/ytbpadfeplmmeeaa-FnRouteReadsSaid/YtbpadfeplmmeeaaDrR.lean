/- What the draws of AddLoad and RouteReads give. -/
import Derived.Test.YtbpadfeplmmeeaaDrH
import Derived.Test.YtbpadfeplmmeeaaDrL
namespace Go.Proofs.Ytbpadfeplmmeeaa
open Go.RowKit
/-- Hosts and two numbers drawn from a code. -/
def DrewH3 (w : World) (e : Ending) (w' : World) : Prop :=
  ∃ (A : Option Addr) (c : Nat) (ys : List Ho) (u v : Int), e = .returned (.tuple #[.slice A ys.length c, .int .i64 u, .int .i64 v]) ∧ SlH w' A c ys ∧ 1 ≤ ys.length ∧ ys.length ≤ 6 ∧ (-1 ≤ u ∧ u ≤ 5) ∧ (-3 ≤ v ∧ v ≤ 101) ∧ Below w.heap.size w w'
set_option maxHeartbeats 1000000 in
theorem drawAddLoad_any (A : Option Addr) (n c : Nat) (w : World) (h : SlB w A n c) :
    Calls Try.prog 10 #[.slice A n c] w (DrewH3 w) := by
  go_enter Try.func10, Try.ntmps10
  go_wp2_with fail
  refine (newReader_any A n c w h).mono ?_
  rintro e w1 ⟨rfl, hrd, hb, hz⟩
  have hzle : w.heap.size + 1 ≤ w1.heap.size := by omega
  clear hz
  go_wp2_with fail
  refine (anyHosts_any w.heap.size 0 w1 hrd (by omega)).mono ?_
  rintro e w2 ⟨B, d, ys, q, rfl, hs, hl1, hl, hq, hrd2, hg, hA⟩
  have hb2 := ext_grown hb hg (fun k e => by injection e with e; omega)
  have hz2 := hrd2.lt
  go_wp2_with fail
  refine (one_any w.heap.size q (some ⟨w2.heap.size, 0, none⟩) 5 [0, 1, 2, 5, -1] _ (hrd2.ext ((Below.refl _ _).alloc (Nat.le_refl _) _)) (by omega) (slI_made w2 _ [0, 1, 2, 5, -1] (by decide)) (by decide) (by decide) (fun ad e => by injection e with e; subst e; show w2.heap.size ≠ w.heap.size; omega)).mono ?_
  rintro e w3 ⟨u, rfl, hu, hrd3, hg3, -⟩
  have hx3 : w2.grownBy w3 (some w.heap.size) := grown_step (World.grownBy_alloc w2 _ _) hg3 (fun j hj => .inl hj)
  have hs3 : SlH w3 B d ys := Sl.keepRow hs hx3 (fun ad e => by have := hA ad e; omega)
  have hb3 := ext_grown hb2 hx3 (fun k e => by injection e with e; omega)
  have hz3 := hrd3.lt
  have hu2 : -1 ≤ u ∧ u ≤ 5 := by
    simp only [List.mem_cons, List.not_mem_nil, or_false] at hu
    omega
  clear hx3 hg3 hg hu hs hb2
  go_wp2_with fail
  refine (one_any w.heap.size (q + 1) (some ⟨w3.heap.size, 0, none⟩) 7 [1, -1, 0, 50, 100, 101, -3] _ (hrd3.ext ((Below.refl _ _).alloc (Nat.le_refl _) _)) (by omega) (slI_made w3 _ [1, -1, 0, 50, 100, 101, -3] (by decide)) (by decide) (by decide) (fun ad e => by injection e with e; subst e; show w3.heap.size ≠ w.heap.size; omega)).mono ?_
  rintro e w4 ⟨v, rfl, hv, hrd4, hg4, -⟩
  have hx4 : w3.grownBy w4 (some w.heap.size) := grown_step (World.grownBy_alloc w3 _ _) hg4 (fun j hj => .inl hj)
  have hs4 : SlH w4 B d ys := Sl.keepRow hs3 hx4 (fun ad e => by have := hA ad e; omega)
  have hb4 := ext_grown hb3 hx4 (fun k e => by injection e with e; omega)
  have hv2 : -3 ≤ v ∧ v ≤ 101 := by
    simp only [List.mem_cons, List.not_mem_nil, or_false] at hv
    omega
  clear hA hx4 hg4 hv hs3 hb3
  go_wp2
  go_ret3
  exact ⟨B, d, ys, u, v, rfl, hs4, hl1, hl, hu2, hv2, hb4⟩
/-- Hosts and numbers drawn from a code. -/
def DrewHI (w : World) (e : Ending) (w' : World) : Prop :=
  ∃ (A A' : Option Addr) (c c' : Nat) (ys : List Ho) (zs : List Int), e = .returned (.tuple #[.slice A ys.length c, .slice A' zs.length c']) ∧ SlH w' A c ys ∧ SlI w' A' c' zs ∧ 1 ≤ ys.length ∧ ys.length ≤ 6 ∧ zs.length ≤ 14 ∧ Below w.heap.size w w'
set_option maxHeartbeats 1000000 in
theorem drawRouteReads_any (A : Option Addr) (n c : Nat) (w : World) (h : SlB w A n c) :
    Calls Try.prog 20 #[.slice A n c] w (DrewHI w) := by
  go_enter Try.func20, Try.ntmps20
  go_wp2_with fail
  refine (newReader_any A n c w h).mono ?_
  rintro e w1 ⟨rfl, hrd, hb, hz⟩
  have hzle : w.heap.size + 1 ≤ w1.heap.size := by omega
  clear hz
  go_wp2_with fail
  refine (anyHosts_any w.heap.size 0 w1 hrd (by omega)).mono ?_
  rintro e w2 ⟨B, d, xs, q, rfl, hs, hl1, hl, hq, hrd2, hg, hA⟩
  have hb2 := ext_grown hb hg (fun k e => by injection e with e; omega)
  have hz2 := hrd2.lt
  have hz12 : w1.heap.size ≤ w2.heap.size := hg.size
  go_wp2_with fail
  refine (one_any w.heap.size q (some ⟨w2.heap.size + 1, 0, none⟩) 6 [4, 6, 2, 12, 0, 13] _ ((hrd2.ext ((Below.refl _ _).alloc (Nat.le_refl _) _)).ext ((Below.refl _ _).alloc (Nat.le_refl _) _)) (by omega) (by have := slI_made (w2.alloc (.cells #[] 3)) 3 [4, 6, 2, 12, 0, 13] (by decide); rw [World.size_alloc] at this; exact this) (by decide) (by decide) (fun ad e => by injection e with e; subst e; show w2.heap.size + 1 ≠ w.heap.size; omega)).mono ?_
  rintro e w3 ⟨v, rfl, hv, hrd3, hg3, -⟩
  have hv2 : 0 ≤ v ∧ v ≤ 13 := by
    simp only [List.mem_cons, List.not_mem_nil, or_false] at hv
    omega
  have hv0 := hv2.1
  have hv1 := hv2.2
  have hG3 : w2.grownBy w3 (some w.heap.size) := grown_same (World.grownBy_alloc w2 _ _) (grown_same (World.grownBy_alloc _ _ _) hg3)
  have ho3 : w3.ownsRow w2.heap.size 3 1 (.slice (some ⟨w2.heap.size, 0, none⟩) 0 0) 0 [] := own_far (own_made w2 _ 1 [] 0 rfl (by decide)) (grown_same (World.grownBy_alloc _ _ _) hg3) (by omega)
  clear hv hv2 hg hg3
  go_wp2_with fail
  go_loopw [6, 7] (fun v i wr => ∃ (x : Int) (ys : List Int) (p : Nat), i = .int .i64 x ∧ 0 ≤ x ∧ x + ys.length ≤ 13 ∧ p ≤ q + 1 + ys.length ∧ wr.ownsRow w2.heap.size 3 1 v ys.length (ci ys) ∧ Rd wr w.heap.size p ∧ w2.grownBy wr (some w.heap.size)) (fun _ i _ => (intOf i).toNat)
  case atStart => exact ⟨v, [], q + 1, rfl, hv0, by simp; omega, by simp, ho3, hrd3, hG3⟩
  case round =>
    clear ho3 hrd3 hG3 hv0 hv1
    obtain ⟨x, ys, p, rfl, hx0, hx1, hp, hown, hrd, hg⟩ := hrel
    by_cases hlt : 0 < x
    · have hzr : w2.heap.size ≤ wr.heap.size := hg.size
      go_wp2_with fail
      refine (one_any w.heap.size p (some ⟨wr.heap.size, 0, none⟩) 4 [0, 5, 10, 1000] _ (hrd.ext ((Below.refl _ _).alloc (Nat.le_refl _) _)) (by omega) (slI_made wr _ [0, 5, 10, 1000] (by decide)) (by decide) (by decide) (fun ad e => by injection e with e; subst e; show wr.heap.size ≠ w.heap.size; omega)).mono ?_
      rintro e wa ⟨a, rfl, -, hrda, hga, -⟩
      have hxa : wr.grownBy wa (some w.heap.size) := grown_step (World.grownBy_alloc wr _ _) hga (fun j hj => .inl hj)
      have howna := own_far hown hxa (by omega)
      have hGa := grown_same hg hxa
      clear hown hrd hg hga hxa
      go_wp2_with (at_builtin; refine wpList_app eltI _ _ (news := ci [a]) (m := 1) howna rfl (ci_one _) (by omega) (by omega) hGa.size (by rfl) (by rfl) (by rfl) (by rfl) ?_; intro v' w4 hown4 hg4)
      go_roundw
      case rel => exact ⟨x - 1, ys ++ [a], p + 1, rfl, by omega, by simp; omega, by simp; omega, by rw [ci_append, List.length_append]; exact hown4, hrda.grown hg4 (fun j hj => by have := own_ge howna j hj; omega), grown_step hGa hg4 (fun j hj => .inr (own_ge howna j hj))⟩
      case measure => simp [intOf]; omega
    · obtain rfl : x = 0 := by omega
      obtain ⟨A2, c2, rfl, hs2, hA2⟩ := slI_of_own hown rfl rfl
      have hsx : SlH wr B d xs := Sl.keepRow hs hg (fun ad e => by have := hA ad e; omega)
      have hb3 := ext_grown hb2 hg (fun k e => by injection e with e; omega)
      clear hown hs hb2 hg
      go_wp2_with fail
      refine (spoil_any w.heap.size p A2 c2 ys 1001 wr hrd (by omega) hs2 (by omega)).mono ?_
      rintro e w5 ⟨A3, c3, zs, q3, rfl, hs3, hl3, hq3, hrd5, hg5, hA3⟩
      have hsx5 : SlH w5 B d xs := Sl.keepRow hsx hg5 (fun ad e => by have := hA ad e; omega)
      have hb5 := ext_grown hb3 hg5 (fun k e => by injection e with e; omega)
      clear hsx hb3 hg5 hA hA2 hA3
      go_wp2
      go_ret2
      exact ⟨B, A3, d, c3, xs, zs, rfl, hsx5, hs3, hl1, hl, by omega, hb5⟩
end Go.Proofs.Ytbpadfeplmmeeaa
