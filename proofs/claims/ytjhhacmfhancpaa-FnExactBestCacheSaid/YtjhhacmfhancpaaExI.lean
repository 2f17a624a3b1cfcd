/- The exact laws' small functions over numbers: sizes, copies, equality, marks. -/
import Derived.Test.YtjhhacmfhancpaaWI
namespace Go.Proofs.Ytjhhacmfhancpaa
open Go.RowKit
set_option maxHeartbeats 400000 in
theorem szIS_any (A : Option Addr) (n c : Nat) (left : Int) (w : World) (hn : n ≤ 9223372036854775807) (h0 : 0 ≤ left) (h1 : left ≤ 1048576) :
    Calls Try.prog 28 #[.slice A n c, .int .i64 left] w fun e w' => e = .returned (.int .i64 (lft left n)) ∧ w = w' := by
  have hw : IntKind.i64.wrap (left - (n : Int)) = left - (n : Int) := by rw [IntKind.wrap_i64]; omega
  by_cases hl : left - (n : Int) < 0
  · have HL := hd (show lft left n = -1 from if_pos hl)
    go_enter Try.func28, Try.ntmps28
    go_wp2
    go_ret
    exact ⟨by rw [HL.out]; rfl, rfl⟩
  · have HL := hd (show lft left n = left - n from if_neg hl)
    go_enter Try.func28, Try.ntmps28
    go_wp2
    go_ret
    exact ⟨by rw [HL.out]; rfl, rfl⟩
set_option maxHeartbeats 1000000 in
theorem eqIS_any (A A' : Option Addr) (c c' : Nat) (xs ys : List Int) (w : World) (h : SlI w A c xs) (h' : SlI w A' c' ys) :
    Calls Try.prog 22 #[.slice A xs.length c, .slice A' ys.length c'] w fun e w' => e = .returned (.bool (sameI xs ys)) ∧ Below w.heap.size w w' := by
  have hmax := h.max
  have hcap := h.cap
  unfold maxLen at hmax
  by_cases hl : xs.length = ys.length
  · have HL := hd hl
    have hlb : ((xs.length : Int) != (ys.length : Int)) = false := by simp [hl]
    have hle : xs.length ≤ ys.length := by omega
    clear hl
    go_enter Try.func22, Try.ntmps22
    go_wp2
    go_loopw [5] (fun i wr => ∃ k : Nat, k ≤ xs.length ∧ i = .int .i64 k ∧ Hid (xs.take k = ys.take k) ∧ Below w.heap.size w wr) (fun i _ => xs.length - (intOf i).toNat)
    case atStart => exact ⟨0, by omega, rfl, rfl, Below.refl _ _⟩
    case round =>
      obtain ⟨k, hk, rfl, HT, hb⟩ := hrel
      by_cases hlt : k < xs.length
      · have hlt' : k < ys.length := by omega
        obtain ⟨ad, rfl, hbl, hc0⟩ := (h.ext hb).at hlt
        obtain ⟨ad', rfl, hbl', hc0'⟩ := (h'.ext hb).at hlt'
        have hik : (k : Int) < (ys.length : Int) := by omega
        by_cases he : xs[k] = ys[k]
        · have e1 : (xs[k] != ys[k]) = false := by simp [he]
          have HT' := hd (takeI_next hlt hlt' HT.out he)
          clear he
          go_wp2_with fail
          go_quiet (fail)
          go_wp2
          go_roundw
          case rel => exact ⟨k + 1, by omega, by go_num, HT', below_drewN hb _⟩
          case measure => simp [intOf]; omega
        · have e1 : (xs[k] != ys[k]) = true := by simp [he]
          have HE := hd (sameI_at hlt hlt' he)
          clear he
          go_wp2_with fail
          go_quiet (fail)
          go_wp2
          go_ret
          exact ⟨by rw [HE.out]; rfl, below_drewN hb _⟩
      · obtain rfl : k = xs.length := by omega
        have HE := hd (sameI_all HL.out HT.out)
        go_wp2
        go_ret
        exact ⟨by rw [HE.out]; rfl, hb⟩
  · have HE := hd (sameI_len hl)
    have hlb : ((xs.length : Int) != (ys.length : Int)) = true := by simp; omega
    clear hl
    go_enter Try.func22, Try.ntmps22
    go_wp2
    go_ret
    exact ⟨by rw [HE.out]; rfl, Below.refl _ _⟩
theorem ci_next {xs : List Int} {k : Nat} (h : k < xs.length) {us : List Value} (hu : us.take k = ci (xs.take k)) (hl : us.length = xs.length) :
    (us.set k (.int .i64 xs[k])).take (k + 1) = ci (xs.take (k + 1)) := by
  rw [List.take_succ_eq_append_getElem (by simpa [hl] using h), List.take_set_of_le (Nat.le_refl _), hu, List.take_succ_eq_append_getElem h, ci_append]
  simp [ci]
set_option maxHeartbeats 1000000 in
theorem toIS_any (A : Option Addr) (c : Nat) (xs : List Int) (w : World) (h : SlI w A c xs) (hl : xs.length ≤ 1048576) :
    Calls Try.prog 20 #[.slice A xs.length c] w (NewI xs w) := by
  have hmax := h.max
  have hcap := h.cap
  unfold maxLen at hmax
  go_enter Try.func20, Try.ntmps20
  obtain ⟨ii, hi1, hi2, hi3, hi4⟩ := info_parts eltI.hi
  go_wp2_with (refine wpList_make_full _ (by rfl) _ _ _ (by rfl) w.heap.size 3 ii _ 1 eltI.ht hi1 hi2 hi3 _ _ _ _ xs.length (by rfl) (by rfl) (by rfl) (by rfl) (by rw [hi4]; omega) (by unfold maxLen; omega) (Nat.le_refl _) ?_; intro w1 hown1 hg1)
  have hz1 : w.heap.size < w1.heap.size := by
    rcases hown1.2 with ⟨h', _⟩ | ⟨g', cap', cur, h', _, hg, _⟩
    · cases h'
    · simp only [Value.slice.injEq, Option.some.injEq, Addr.mk.injEq, and_true, true_and] at h'
      obtain ⟨rfl, rfl⟩ := h'
      exact lt_of_block hg
  have hb1 : Below w.heap.size w w1 := (Below.refl _ _).grown hg1 (Nat.le_refl _) (fun k e => by cases e)
  obtain ⟨us1, hus1⟩ : ∃ us, us = (madeCells (Value.int IntKind.i64 0).cells (xs.length * 1)).toList := ⟨_, rfl⟩
  rw [← hus1] at hown1
  clear hus1
  have HL := hd (show us1.length = xs.length by have := hown1.1; omega)
  have H1 := hd hown1
  clear hown1
  go_loopw [4] (fun i wr => ∃ (k : Nat) (us : List Value), k ≤ xs.length ∧ i = .int .i64 k ∧ wr.ownsRow w.heap.size 3 1 (.slice (some ⟨w.heap.size, 0, none⟩) xs.length xs.length) xs.length us ∧ Hid (us.length = xs.length) ∧ Hid (us.take k = ci (xs.take k)) ∧ Below w.heap.size w wr ∧ w.heap.size < wr.heap.size) (fun i _ => xs.length - (intOf i).toNat)
  case atStart => exact ⟨0, us1, by omega, rfl, H1.out, HL.out, hd (by simp [ci]), hb1, hz1⟩
  case round =>
    clear H1 HL hg1 hb1 hz1 us1
    obtain ⟨k, us, hk, rfl, hown, HL, HT, hb, hzr⟩ := hrel
    by_cases hlt : k < xs.length
    · obtain ⟨ad, rfl, hbl, hc0⟩ := (h.ext hb).at hlt
      obtain ⟨z0, p0⟩ := own_cell' hown k (by rw [HL.out]; exact hlt)
      have f0 := hown.frozenAt k
      have H9 := hd (hown.stored k (.int .i64 xs[k]))
      clear hown
      go_wp2
      go_roundw
      case rel => exact ⟨k + 1, _, by omega, by go_num, H9.out.1, by rw [List.length_set]; exact HL.out, ci_next hlt HT.out HL.out, hb.grown H9.out.2 hb.size (fun j hj => by injection hj with hj; omega), Nat.lt_of_lt_of_le hzr H9.out.2.size⟩
      case measure => simp [intOf]; omega
    · obtain rfl : k = xs.length := by omega
      go_wp2
      go_ret
      have e1 : us = ci xs := by
        have := HT.out
        rwa [← HL.out, List.take_length, HL.out, List.take_length] at this
      obtain ⟨A2, c2, e2, hr⟩ := rwI_of_own hown e1 rfl
      exact ⟨A2, c2, by rw [← e2]; rfl, hr, hb⟩
/-- Marked numbers. -/
def mkI (n k : Nat) : List Int := (List.range n).map fun i => ((k + i : Nat) : Int)
theorem mkI_len (n k : Nat) : (mkI n k).length = n := by simp [mkI]
theorem mkI_at {n k i : Nat} (h : i < (mkI n k).length) : (mkI n k)[i] = ((k + i : Nat) : Int) := by simp [mkI]
theorem mkI_step {xs : List Int} {k j : Nat} (h : j < xs.length) : (mkI j k ++ xs.drop j).set j ((k + j : Nat) : Int) = mkI (j + 1) k ++ xs.drop (j + 1) := by
  rw [List.set_append_right _ _ (by rw [mkI_len]; exact Nat.le_refl _), mkI_len, Nat.sub_self, List.drop_eq_getElem_cons h, List.set_cons_zero]
  simp [mkI, List.range_succ]
set_option maxHeartbeats 1000000 in
theorem markIS_any (B : Nat) (A : Option Addr) (c : Nat) (xs : List Int) (k : Nat) (w : World) (h : RwI w B A c xs) (hk : k + xs.length ≤ 4611686018427387904) :
    Calls Try.prog 38 #[.slice A xs.length c, .int .i64 (k : Int)] w fun e w' => e = .returned (.int .i64 ((k + xs.length : Nat) : Int)) ∧ RwI w' B A c (mkI xs.length k) ∧ w.grownBy w' (rowOf A xs.length) := by
  have hmax := Sl.max h.1
  have hcap := Sl.cap h.1
  unfold maxLen at hmax
  rcases Nat.eq_zero_or_pos xs.length with h0 | h0
  · have e0 : xs = [] := List.eq_nil_of_length_eq_zero h0
    subst e0
    have HH := hd h
    clear h
    go_enter Try.func38, Try.ntmps38
    go_wp2
    go_loop [1, 5] (fun v i => v = .int .i64 (k : Int) ∧ i = .int .i64 ((0 : Nat) : Int)) (fun _ i => 0)
    case atStart => exact ⟨rfl, rfl⟩
    case round =>
      obtain ⟨rfl, rfl⟩ := hrel
      go_wp2
      go_ret
      exact ⟨rfl, HH.out, World.grownBy.refl _ _⟩
  · obtain ⟨g, hg, hgB, hgl, -⟩ := Rw.put h (by omega)
    subst hg
    have HH := hd h
    clear h
    go_enter Try.func38, Try.ntmps38
    go_wp2
    go_loopw [1, 5] (fun v i wr => ∃ (j kk : Nat), j ≤ xs.length ∧ i = .int .i64 j ∧ v = .int .i64 (kk : Int) ∧ Hid (kk = k + j) ∧ kk ≤ k + xs.length ∧ Hid (RwI wr B (some ⟨g, 0, none⟩) c (mkI j k ++ xs.drop j)) ∧ w.grownBy wr (some g)) (fun _ i _ => xs.length - (intOf i).toNat)
    case atStart => exact ⟨0, k, by omega, rfl, rfl, rfl, by omega, hd (by simpa [mkI] using HH.out), World.grownBy.refl _ _⟩
    case round =>
      clear HH
      obtain ⟨j, kk, hj, rfl, rfl, HK, hkk, HR, hg⟩ := hrel
      have hml : (mkI j k ++ xs.drop j).length = xs.length := by rw [List.length_append, mkI_len, List.length_drop]; omega
      by_cases hlt : j < xs.length
      · obtain ⟨g', hg', -, -, hp⟩ := Rw.put HR.out (by rw [hml]; exact h0)
        injection hg' with hg'
        injection hg' with hg'
        subst hg'
        obtain ⟨⟨u0, p0⟩, f0, hs⟩ := hp j (by rw [ci_length, hml]; exact hlt)
        have hs1 := hs (.int .i64 (kk : Int))
        have HS := hd (show RwI (wr.setCell ⟨g, j, none⟩ (.int .i64 (kk : Int))) B (some ⟨g, 0, none⟩) c (mkI (j + 1) k ++ xs.drop (j + 1)) ∧ wr.grownBy (wr.setCell ⟨g, j, none⟩ (.int .i64 (kk : Int))) (some g) by
          have e1 := mkI_step (xs := xs) (k := k) hlt
          have e2 := HK.out
          refine ⟨?_, hs1.2⟩
          have h3 := hs1.1
          rw [ci_set, e2, e1] at h3
          unfold RwI
          rw [e2]
          have : (mkI (j + 1) k ++ xs.drop (j + 1)).length = (mkI j k ++ xs.drop j).length := by rw [hml, List.length_append, mkI_len, List.length_drop]; omega
          rw [this]
          exact h3)
        have HK' := hd (show kk + 1 = k + (j + 1) by rw [HK.out]; omega)
        have hk2 : kk < k + xs.length := by have := HK.out; omega
        clear hs hs1 hml hp
        go_wp2
        go_roundw
        case rel => exact ⟨j + 1, kk + 1, by omega, by go_num, by go_num, HK', by omega, HS.out.1, grown_same hg HS.out.2⟩
        case measure => simp [intOf]; omega
      · obtain rfl : j = xs.length := by omega
        have HR2 := hd (show RwI wr B (some ⟨g, 0, none⟩) c (mkI xs.length k) by
          have := HR.out
          rwa [List.drop_length, List.append_nil] at this)
        clear hml
        go_wp2
        go_ret
        exact ⟨by rw [← HK.out]; rfl, HR2.out, by rw [rowOf_some h0]; exact hg⟩
set_option maxHeartbeats 1000000 in
theorem heldIS_any (A : Option Addr) (n c : Nat) (k : Nat) (w : World) (h : SlI w A c (mkI n k)) (hk : k + n ≤ 4611686018427387904) :
    Calls Try.prog 39 #[.slice A n c, .int .i64 (k : Int)] w fun e w' => e = .returned (.int .i64 ((k + n : Nat) : Int)) ∧ w = w' := by
  have hmax := Sl.max h
  have hcap := Sl.cap h
  unfold maxLen at hmax
  rw [mkI_len] at hcap
  have HH := hd h
  clear h
  go_enter Try.func39, Try.ntmps39
  go_wp2
  go_loop [1, 5] (fun v i => ∃ (j kk : Nat), j ≤ n ∧ i = .int .i64 j ∧ v = .int .i64 (kk : Int) ∧ Hid (kk = k + j) ∧ kk ≤ k + n) (fun _ i => n - (intOf i).toNat)
  case atStart => exact ⟨0, k, by omega, rfl, rfl, rfl, by omega⟩
  case round =>
    obtain ⟨j, kk, hj, rfl, rfl, HK, hkk⟩ := hrel
    by_cases hlt : j < n
    · obtain ⟨ad, rfl, -, c0⟩ := SlI.at HH.out (i := j) (by rw [mkI_len]; exact hlt)
      rw [mkI_at, ← HK.out] at c0
      have HK' := hd (show kk + 1 = k + (j + 1) by rw [HK.out]; omega)
      have hk2 : kk < k + n := by have := HK.out; omega
      have gn : ((kk : Int) != (kk : Int)) = false := by simp
      go_wp2
      go_round
      case rel => exact ⟨j + 1, kk + 1, by omega, by go_num, by go_num, HK', by omega⟩
      case measure => simp [intOf]; omega
    · obtain rfl : j = n := by omega
      have HE := hd (show (kk : Int) = (k : Int) + (j : Int) by have := HK.out; omega)
      go_wp2
      go_ret
      exact ⟨by rw [← HE.out]; rfl, rfl⟩
end Go.Proofs.Ytjhhacmfhancpaa
