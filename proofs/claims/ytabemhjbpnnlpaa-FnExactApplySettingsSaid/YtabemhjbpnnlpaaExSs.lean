/- The exact laws' small functions over settings: marks. -/
import Derived.Test.YtabemhjbpnnlpaaEx
namespace Go.Proofs.Ytabemhjbpnnlpaa
open Go.RowKit
theorem cst_set (xs : List St) (i : Nat) (s : St) (h : i < xs.length) : ((cst xs).set (i * 2) (.int .i64 s.1)).set (i * 2 + 1) (.int .i64 s.2) = cst (xs.set i s) := by
  induction xs generalizing i with
  | nil => simp at h
  | cons x r ih =>
    cases i with
    | zero => rfl
    | succ i =>
      have := ih i (by simpa using h)
      have e : ∀ (x : St) (r : List St), cst (x :: r) = .int .i64 x.1 :: .int .i64 x.2 :: cst r := fun _ _ => rfl
      rw [e, show (i + 1) * 2 = i * 2 + 1 + 1 from by omega]
      simp only [List.set_cons_succ]
      rw [this]
      rfl
/-- Two cells stored into new memory. -/
theorem Rw.put2 {w : World} {B n c : Nat} {e : TypeId} {A : Option Addr} {us : List Value} (h : Rw w B e 2 A n c us) (hn : 0 < n) (i : Nat) (hi : i + 1 < us.length) :
    ∃ g, A = some ⟨g, 0, none⟩ ∧ (∃ u, w.cell? ⟨g, i, none⟩ = some u) ∧ w.frozen? ⟨g, i, none⟩ = false ∧
      ∀ a, (∃ u, (w.setCell ⟨g, i, none⟩ a).cell? ⟨g, i + 1, none⟩ = some u) ∧ (w.setCell ⟨g, i, none⟩ a).frozen? ⟨g, i + 1, none⟩ = false ∧
      ∀ b, Rw ((w.setCell ⟨g, i, none⟩ a).setCell ⟨g, i + 1, none⟩ b) B e 2 A n c ((us.set i a).set (i + 1) b) ∧
        w.grownBy ((w.setCell ⟨g, i, none⟩ a).setCell ⟨g, i + 1, none⟩ b) (some g) := by
  obtain ⟨g, e0, _, _, hp⟩ := Rw.put h hn
  subst e0
  obtain ⟨p0, f0, s0⟩ := hp i (by omega)
  refine ⟨g, rfl, p0, f0, fun a => ?_⟩
  obtain ⟨g1, e1, _, _, hp1⟩ := Rw.put (s0 a).1 hn
  injection e1 with e1
  injection e1 with e1
  subst e1
  obtain ⟨p1, f1, s1⟩ := hp1 (i + 1) (by simp; omega)
  exact ⟨p1, f1, fun b => ⟨(s1 b).1, grown_same (s0 a).2 (s1 b).2⟩⟩
/-- Marked settings. -/
def mkS (n k : Nat) : List St := (List.range n).map fun i => (((k + 2 * i : Nat) : Int), ((k + 2 * i : Nat) : Int) + 1)
theorem mkS_len (n k : Nat) : (mkS n k).length = n := by simp [mkS]
theorem mkS_at {n k i : Nat} (h : i < (mkS n k).length) : (mkS n k)[i] = (((k + 2 * i : Nat) : Int), ((k + 2 * i : Nat) : Int) + 1) := by simp [mkS]
theorem mkS_step {xs : List St} {k j : Nat} (h : j < xs.length) : (mkS j k ++ xs.drop j).set j (((k + 2 * j : Nat) : Int), ((k + 2 * j : Nat) : Int) + 1) = mkS (j + 1) k ++ xs.drop (j + 1) := by
  rw [List.set_append_right _ _ (by rw [mkS_len]; exact Nat.le_refl _), mkS_len, Nat.sub_self, List.drop_eq_getElem_cons h, List.set_cons_zero]
  simp [mkS, List.range_succ]
set_option maxHeartbeats 1000000 in
theorem markSS_any (B : Nat) (A : Option Addr) (c : Nat) (xs : List St) (k : Nat) (w : World) (h : RwS w B 40 A c xs) (hk : k + 2 * xs.length ≤ 4611686018427387904) :
    Calls Try.prog 26 #[.slice A xs.length c, .int .i64 (k : Int)] w fun e w' => e = .returned (.int .i64 ((k + 2 * xs.length : Nat) : Int)) ∧ RwS w' B 40 A c (mkS xs.length k) ∧ w.grownBy w' (rowOf A xs.length) := by
  have hmax := Sl.max h.1
  have hcap := Sl.cap h.1
  unfold maxLen at hmax
  rcases Nat.eq_zero_or_pos xs.length with h0 | h0
  · have e0 : xs = [] := List.eq_nil_of_length_eq_zero h0
    subst e0
    have HH := hd h
    clear h
    go_enter Try.func26, Try.ntmps26
    go_wp2
    go_loop [1, 5] (fun v i => v = .int .i64 (k : Int) ∧ i = .int .i64 ((0 : Nat) : Int)) (fun _ i => 0)
    case atStart => exact ⟨rfl, rfl⟩
    case round =>
      obtain ⟨rfl, rfl⟩ := hrel
      go_wp2
      go_ret
      exact ⟨rfl, HH.out, World.grownBy.refl _ _⟩
  · obtain ⟨g, hg, hgB, hgl, -⟩ := Rw.put h (by omega)
    subst hg
    have HH := hd h
    clear h
    go_enter Try.func26, Try.ntmps26
    go_wp2
    go_loopw [1, 5] (fun v i wr => ∃ (j kk : Nat), j ≤ xs.length ∧ i = .int .i64 j ∧ v = .int .i64 (kk : Int) ∧ Hid (kk = k + 2 * j) ∧ kk ≤ k + 2 * xs.length ∧ Hid (RwS wr B 40 (some ⟨g, 0, none⟩) c (mkS j k ++ xs.drop j)) ∧ w.grownBy wr (some g)) (fun _ i _ => xs.length - (intOf i).toNat)
    case atStart => exact ⟨0, k, by omega, rfl, rfl, rfl, by omega, hd (by simpa [mkS] using HH.out), World.grownBy.refl _ _⟩
    case round =>
      clear HH
      obtain ⟨j, kk, hj, rfl, rfl, HK, hkk, HR, hg⟩ := hrel
      have hml : (mkS j k ++ xs.drop j).length = xs.length := by rw [List.length_append, mkS_len, List.length_drop]; omega
      by_cases hlt : j < xs.length
      · obtain ⟨g', hg', p0, f0, hp⟩ := Rw.put2 HR.out (by rw [hml]; exact h0) (j * 2) (by rw [cst_length, hml]; omega)
        injection hg' with hg'
        injection hg' with hg'
        subst hg'
        obtain ⟨u0, p0⟩ := p0
        obtain ⟨⟨u1, p1⟩, f1, hp⟩ := hp (.int .i64 (kk : Int))
        have hs1 := hp (.int .i64 ((kk : Int) + 1))
        have HS := hd (show RwS ((wr.setCell ⟨g, j * 2, none⟩ (.int .i64 (kk : Int))).setCell ⟨g, j * 2 + 1, none⟩ (.int .i64 ((kk : Int) + 1))) B 40 (some ⟨g, 0, none⟩) c (mkS (j + 1) k ++ xs.drop (j + 1)) ∧ wr.grownBy ((wr.setCell ⟨g, j * 2, none⟩ (.int .i64 (kk : Int))).setCell ⟨g, j * 2 + 1, none⟩ (.int .i64 ((kk : Int) + 1))) (some g) by
          refine ⟨?_, hs1.2⟩
          have e1 := mkS_step (xs := xs) (k := k) hlt
          have e2 := HK.out
          have h3 := hs1.1
          have e3 := cst_set (mkS j k ++ xs.drop j) j ((kk : Int), (kk : Int) + 1) (by rw [hml]; exact hlt)
          rw [e2] at e3
          rw [e1] at e3
          unfold RwS
          have e4 : (mkS (j + 1) k ++ xs.drop (j + 1)).length = (mkS j k ++ xs.drop j).length := by rw [hml, List.length_append, mkS_len, List.length_drop]; omega
          rw [e4, ← e3, ← e2]
          exact h3)
        have HK' := hd (show kk + 2 = k + 2 * (j + 1) by rw [HK.out]; omega)
        have hk2 : kk + 2 ≤ k + 2 * xs.length := by have := HK.out; omega
        clear hp hs1 hml HR
        go_wp2
        go_roundw
        case rel => exact ⟨j + 1, kk + 2, by omega, by go_num, by go_num, HK', by omega, hd HS.out.1, grown_same hg HS.out.2⟩
        case measure => simp [intOf]; omega
      · obtain rfl : j = xs.length := by omega
        have HR2 := hd (show RwS wr B 40 (some ⟨g, 0, none⟩) c (mkS xs.length k) by
          have := HR.out
          rwa [List.drop_length, List.append_nil] at this)
        clear hml
        go_wp2
        go_ret
        exact ⟨by rw [← HK.out]; rfl, HR2.out, by rw [rowOf_some h0]; exact hg⟩
set_option maxHeartbeats 1000000 in
theorem heldSS_any (A : Option Addr) (n c : Nat) (k : Nat) (w : World) (h : SlS w A c (mkS n k)) (hk : k + 2 * n ≤ 4611686018427387904) :
    Calls Try.prog 27 #[.slice A n c, .int .i64 (k : Int)] w fun e w' => e = .returned (.int .i64 ((k + 2 * n : Nat) : Int)) ∧ Below w.heap.size w w' := by
  have hmax := Sl.max h
  have hcap := Sl.cap h
  unfold maxLen at hmax
  rw [mkS_len] at hcap
  have HH := hd h
  clear h
  go_enter Try.func27, Try.ntmps27
  go_wp2
  go_loopw [1, 5] (fun v i wr => ∃ (j kk : Nat), j ≤ n ∧ i = .int .i64 j ∧ v = .int .i64 (kk : Int) ∧ Hid (kk = k + 2 * j) ∧ kk ≤ k + 2 * n ∧ Below w.heap.size w wr) (fun _ i _ => n - (intOf i).toNat)
  case atStart => exact ⟨0, k, by omega, rfl, rfl, rfl, by omega, Below.refl _ _⟩
  case round =>
    obtain ⟨j, kk, hj, rfl, rfl, HK, hkk, hb⟩ := hrel
    by_cases hlt : j < n
    · obtain ⟨ad, rfl, -, c0, c1⟩ := SlS.at (HH.out.ext hb) (i := j) (by rw [mkS_len]; exact hlt)
      rw [mkS_at, ← HK.out] at c0 c1
      have HK' := hd (show kk + 2 = k + 2 * (j + 1) by rw [HK.out]; omega)
      have hk2 : kk + 2 ≤ k + 2 * n := by have := HK.out; omega
      have gn : ((kk : Int) != (kk : Int)) = false := by simp
      have gn1 : ((kk : Int) + 1 != (kk : Int) + 1) = false := by simp
      dsimp only at c0 c1
      go_wp2
      go_roundw
      case rel => exact ⟨j + 1, kk + 2, by omega, by go_num, by go_num, HK', by omega, hb⟩
      case measure => simp [intOf]; omega
    · obtain rfl : j = n := by omega
      go_wp2
      go_ret
      exact ⟨by rw [← HK.out]; rfl, hb⟩
/-- Marks of settings, the count named. -/
theorem markSS_k (B : Nat) (A : Option Addr) (c : Nat) (xs : List St) (k k1 : Nat) (kz : Int) (w : World) (hkz : kz = (k : Int)) (e1 : k1 = k + 2 * xs.length) (hk : k1 ≤ 4611686018427387904) (h : RwS w B 40 A c xs) :
    Calls Try.prog 26 #[.slice A xs.length c, .int .i64 kz] w fun e w' => e = .returned (.int .i64 (k1 : Int)) ∧ RwS w' B 40 A c (mkS xs.length k) ∧ w.grownBy w' (rowOf A xs.length) := by
  subst hkz e1
  exact markSS_any B A c xs k w h hk
theorem heldSS_k (A : Option Addr) (n c : Nat) (k k1 : Nat) (kz : Int) (w : World) (hkz : kz = (k : Int)) (e1 : k1 = k + 2 * n) (hk : k1 ≤ 4611686018427387904) (h : SlS w A c (mkS n k)) :
    Calls Try.prog 27 #[.slice A n c, .int .i64 kz] w fun e w' => e = .returned (.int .i64 (k1 : Int)) ∧ Below w.heap.size w w' := by
  subst hkz e1
  exact heldSS_any A n c k w h hk
theorem slS_mk {w : World} {A : Option Addr} {c n k : Nat} (h : Sl w 2 A n c (cst (mkS n k))) : SlS w A c (mkS n k) := by
  unfold SlS; rw [mkS_len]; exact h
theorem lft_two {k m : Nat} (hk : k ≤ 1048576) : (lft (k : Int) m = -1) ∨ ∃ j : Nat, lft (k : Int) m = (j : Int) ∧ j ≤ 1048576 ∧ m ≤ 1048576 := by
  unfold lft
  by_cases h : (k : Int) - m < 0
  · exact .inl (if_pos h)
  · exact .inr ⟨k - m, by rw [if_neg h]; omega, by omega, by omega⟩
theorem eqL_refl (xs : List St) : eqL xs xs = true := decide_eq_true rfl
end Go.Proofs.Ytabemhjbpnnlpaa
