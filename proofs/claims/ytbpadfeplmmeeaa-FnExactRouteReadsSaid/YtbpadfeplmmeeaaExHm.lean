/- The exact laws' small functions over hosts: marks. -/
import Derived.Test.YtbpadfeplmmeeaaExH
namespace Go.Proofs.Ytbpadfeplmmeeaa
open Go.RowKit
/-- Three cells stored into new memory. -/
theorem Rw.put3 {w : World} {B n c : Nat} {e : TypeId} {A : Option Addr} {us : List Value} (h : Rw w B e 3 A n c us) (hn : 0 < n) (i : Nat) (hi : i + 2 < us.length) :
    ∃ g, A = some ⟨g, 0, none⟩ ∧ (∃ u, w.cell? ⟨g, i, none⟩ = some u) ∧ w.frozen? ⟨g, i, none⟩ = false ∧
      ∀ a, (∃ u, (w.setCell ⟨g, i, none⟩ a).cell? ⟨g, i + 1, none⟩ = some u) ∧ (w.setCell ⟨g, i, none⟩ a).frozen? ⟨g, i + 1, none⟩ = false ∧
      ∀ b, (∃ u, ((w.setCell ⟨g, i, none⟩ a).setCell ⟨g, i + 1, none⟩ b).cell? ⟨g, i + 2, none⟩ = some u) ∧ ((w.setCell ⟨g, i, none⟩ a).setCell ⟨g, i + 1, none⟩ b).frozen? ⟨g, i + 2, none⟩ = false ∧
      ∀ d, Rw (((w.setCell ⟨g, i, none⟩ a).setCell ⟨g, i + 1, none⟩ b).setCell ⟨g, i + 2, none⟩ d) B e 3 A n c (((us.set i a).set (i + 1) b).set (i + 2) d) ∧
        w.grownBy (((w.setCell ⟨g, i, none⟩ a).setCell ⟨g, i + 1, none⟩ b).setCell ⟨g, i + 2, none⟩ d) (some g) := by
  obtain ⟨g, e0, _, _, hp⟩ := Rw.put h hn
  subst e0
  obtain ⟨p0, f0, s0⟩ := hp i (by omega)
  refine ⟨g, rfl, p0, f0, fun a => ?_⟩
  obtain ⟨g1, e1, _, _, hp1⟩ := Rw.put (s0 a).1 hn
  injection e1 with e1
  injection e1 with e1
  subst e1
  obtain ⟨p1, f1, s1⟩ := hp1 (i + 1) (by simp; omega)
  refine ⟨p1, f1, fun b => ?_⟩
  obtain ⟨g2, e2, _, _, hp2⟩ := Rw.put (s1 b).1 hn
  injection e2 with e2
  injection e2 with e2
  subst e2
  obtain ⟨p2, f2, s2⟩ := hp2 (i + 2) (by simp; omega)
  exact ⟨p2, f2, fun d => ⟨(s2 d).1, grown_same (grown_same (s0 a).2 (s1 b).2) (s2 d).2⟩⟩
/-- Marked hosts. -/
def dn (k : Nat) : Bool := ((k : Int) + 1 + 1) % 3 == 0
def mkH (n k : Nat) : List Ho := (List.range n).map fun i => (((k + 3 * i : Nat) : Int), ((k + 3 * i : Nat) : Int) + 1, dn (k + 3 * i))
theorem mkH_len (n k : Nat) : (mkH n k).length = n := by simp [mkH]
theorem mkH_at {n k i : Nat} (h : i < (mkH n k).length) : (mkH n k)[i] = (((k + 3 * i : Nat) : Int), ((k + 3 * i : Nat) : Int) + 1, dn (k + 3 * i)) := by simp [mkH]
theorem mkH_step {xs : List Ho} {k j : Nat} (h : j < xs.length) : (mkH j k ++ xs.drop j).set j (((k + 3 * j : Nat) : Int), ((k + 3 * j : Nat) : Int) + 1, dn (k + 3 * j)) = mkH (j + 1) k ++ xs.drop (j + 1) := by
  rw [List.set_append_right _ _ (by rw [mkH_len]; exact Nat.le_refl _), mkH_len, Nat.sub_self, List.drop_eq_getElem_cons h, List.set_cons_zero]
  simp [mkH, List.range_succ]
set_option maxHeartbeats 1000000 in
theorem markHS_any (B : Nat) (A : Option Addr) (c : Nat) (xs : List Ho) (k : Nat) (w : World) (h : RwH w B 30 A c xs) (hk : k + 3 * xs.length ≤ 4611686018427387904) :
    Calls Try.prog 18 #[.slice A xs.length c, .int .i64 (k : Int)] w fun e w' => e = .returned (.int .i64 ((k + 3 * xs.length : Nat) : Int)) ∧ RwH w' B 30 A c (mkH xs.length k) ∧ w.grownBy w' (rowOf A xs.length) := by
  have hmax := Sl.max h.1
  have hcap := Sl.cap h.1
  unfold maxLen at hmax
  rcases Nat.eq_zero_or_pos xs.length with h0 | h0
  · have e0 : xs = [] := List.eq_nil_of_length_eq_zero h0
    subst e0
    have HH := hd h
    clear h
    go_enter Try.func18, Try.ntmps18
    go_wp2
    go_loop [1, 5] (fun v i => v = .int .i64 (k : Int) ∧ i = .int .i64 ((0 : Nat) : Int)) (fun _ i => 0)
    case atStart => exact ⟨rfl, rfl⟩
    case round =>
      obtain ⟨rfl, rfl⟩ := hrel
      go_wp2
      go_ret
      exact ⟨rfl, HH.out, World.grownBy.refl _ _⟩
  · obtain ⟨g, hg, hgB, hgl, -⟩ := Rw.put h (by omega)
    subst hg
    have HH := hd h
    clear h
    go_enter Try.func18, Try.ntmps18
    go_wp2
    go_loopw [1, 5] (fun v i wr => ∃ (j kk : Nat), j ≤ xs.length ∧ i = .int .i64 j ∧ v = .int .i64 (kk : Int) ∧ Hid (kk = k + 3 * j) ∧ kk ≤ k + 3 * xs.length ∧ Hid (RwH wr B 30 (some ⟨g, 0, none⟩) c (mkH j k ++ xs.drop j)) ∧ w.grownBy wr (some g)) (fun _ i _ => xs.length - (intOf i).toNat)
    case atStart => exact ⟨0, k, by omega, rfl, rfl, rfl, by omega, hd (by simpa [mkH] using HH.out), World.grownBy.refl _ _⟩
    case round =>
      clear HH
      obtain ⟨j, kk, hj, rfl, rfl, HK, hkk, HR, hg⟩ := hrel
      have hml : (mkH j k ++ xs.drop j).length = xs.length := by rw [List.length_append, mkH_len, List.length_drop]; omega
      by_cases hlt : j < xs.length
      · obtain ⟨g', hg', p0, f0, hp⟩ := Rw.put3 HR.out (by rw [hml]; exact h0) (j * 3) (by rw [cho_length, hml]; omega)
        injection hg' with hg'
        injection hg' with hg'
        subst hg'
        obtain ⟨u0, p0⟩ := p0
        obtain ⟨⟨u1, p1⟩, f1, hp⟩ := hp (.int .i64 (kk : Int))
        obtain ⟨⟨u2, p2⟩, f2, hp⟩ := hp (.int .i64 ((kk : Int) + 1))
        have hs1 := hp (.bool (((kk : Int) + 1 + 1) % 3 == 0))
        have HS := hd (show RwH (((wr.setCell ⟨g, j * 3, none⟩ (.int .i64 (kk : Int))).setCell ⟨g, j * 3 + 1, none⟩ (.int .i64 ((kk : Int) + 1))).setCell ⟨g, j * 3 + 2, none⟩ (.bool (((kk : Int) + 1 + 1) % 3 == 0))) B 30 (some ⟨g, 0, none⟩) c (mkH (j + 1) k ++ xs.drop (j + 1)) ∧ wr.grownBy (((wr.setCell ⟨g, j * 3, none⟩ (.int .i64 (kk : Int))).setCell ⟨g, j * 3 + 1, none⟩ (.int .i64 ((kk : Int) + 1))).setCell ⟨g, j * 3 + 2, none⟩ (.bool (((kk : Int) + 1 + 1) % 3 == 0))) (some g) by
          refine ⟨?_, hs1.2⟩
          have e1 := mkH_step (xs := xs) (k := k) hlt
          have e2 := HK.out
          have h3 := hs1.1
          have e3 := cho_set (mkH j k ++ xs.drop j) j ((kk : Int), (kk : Int) + 1, dn kk) (by rw [hml]; exact hlt)
          rw [e2] at e3
          rw [e1] at e3
          unfold RwH
          have e4 : (mkH (j + 1) k ++ xs.drop (j + 1)).length = (mkH j k ++ xs.drop j).length := by rw [hml, List.length_append, mkH_len, List.length_drop]; omega
          rw [e4, ← e3, ← e2]
          exact h3)
        have HK' := hd (show kk + 3 = k + 3 * (j + 1) by rw [HK.out]; omega)
        have hk2 : kk + 3 ≤ k + 3 * xs.length := by have := HK.out; omega
        clear hp hs1 hml HR
        go_wp2
        go_roundw
        case rel => exact ⟨j + 1, kk + 3, by omega, by go_num, by go_num, HK', by omega, hd HS.out.1, grown_same hg HS.out.2⟩
        case measure => simp [intOf]; omega
      · obtain rfl : j = xs.length := by omega
        have HR2 := hd (show RwH wr B 30 (some ⟨g, 0, none⟩) c (mkH xs.length k) by
          have := HR.out
          rwa [List.drop_length, List.append_nil] at this)
        clear hml
        go_wp2
        go_ret
        exact ⟨by rw [← HK.out]; rfl, HR2.out, by rw [rowOf_some h0]; exact hg⟩
set_option maxHeartbeats 1000000 in
theorem heldHS_any (A : Option Addr) (n c : Nat) (k : Nat) (w : World) (h : SlH w A c (mkH n k)) (hk : k + 3 * n ≤ 4611686018427387904) :
    Calls Try.prog 19 #[.slice A n c, .int .i64 (k : Int)] w fun e w' => e = .returned (.int .i64 ((k + 3 * n : Nat) : Int)) ∧ Below w.heap.size w w' := by
  have hmax := Sl.max h
  have hcap := Sl.cap h
  unfold maxLen at hmax
  rw [mkH_len] at hcap
  have HH := hd h
  clear h
  go_enter Try.func19, Try.ntmps19
  go_wp2
  go_loopw [1, 5] (fun v i wr => ∃ (j kk : Nat), j ≤ n ∧ i = .int .i64 j ∧ v = .int .i64 (kk : Int) ∧ Hid (kk = k + 3 * j) ∧ kk ≤ k + 3 * n ∧ Below w.heap.size w wr) (fun _ i _ => n - (intOf i).toNat)
  case atStart => exact ⟨0, k, by omega, rfl, rfl, rfl, by omega, Below.refl _ _⟩
  case round =>
    obtain ⟨j, kk, hj, rfl, rfl, HK, hkk, hb⟩ := hrel
    by_cases hlt : j < n
    · obtain ⟨ad, rfl, -, c0, c1, c2⟩ := SlH.at (HH.out.ext hb) (i := j) (by rw [mkH_len]; exact hlt)
      rw [mkH_at, ← HK.out] at c0 c1 c2
      have HK' := hd (show kk + 3 = k + 3 * (j + 1) by rw [HK.out]; omega)
      have hk2 : kk + 3 ≤ k + 3 * n := by have := HK.out; omega
      have gn : ((kk : Int) != (kk : Int)) = false := by simp
      have gn1 : ((kk : Int) + 1 != (kk : Int) + 1) = false := by simp
      have gd : (dn kk != (((kk : Int) + 1 + 1) % 3 == 0)) = false := by unfold dn; simp
      have gd' : (dn kk == (((kk : Int) + 1 + 1) % 3 == 0)) = true := by unfold dn; simp
      dsimp only at c0 c1 c2
      go_wp2
      go_roundw
      case rel => exact ⟨j + 1, kk + 3, by omega, by go_num, by go_num, HK', by omega, hb⟩
      case measure => simp [intOf]; omega
    · obtain rfl : j = n := by omega
      go_wp2
      go_ret
      exact ⟨by rw [← HK.out]; rfl, hb⟩
end Go.Proofs.Ytbpadfeplmmeeaa
