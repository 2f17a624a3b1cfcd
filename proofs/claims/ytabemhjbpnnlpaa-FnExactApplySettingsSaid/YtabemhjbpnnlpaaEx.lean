/- The exact laws' small functions over settings: sizes, copies, equality, marks. -/
import Derived.Test.YtabemhjbpnnlpaaWSt
import Derived.Test.YtabemhjbpnnlpaaWEq
import Derived.Test.YtabemhjbpnnlpaaMem2
import Derived.Deep.RegionWith
namespace Go.Proofs.Ytabemhjbpnnlpaa
open Go.RowKit
set_option maxHeartbeats 400000 in
theorem szS_any (A : Option Addr) (n c : Nat) (left : Int) (w : World) (hn : n ≤ 9223372036854775807) (h0 : 0 ≤ left) (h1 : left ≤ 1048576) :
    Calls Try.prog 19 #[.slice A n c, .int .i64 left] w fun e w' => e = .returned (.int .i64 (lft left n)) ∧ w = w' := by
  have hw : IntKind.i64.wrap (left - (n : Int)) = left - (n : Int) := by rw [IntKind.wrap_i64]; omega
  by_cases hl : left - (n : Int) < 0
  · have HL := hd (show lft left n = -1 from if_pos hl)
    go_enter Try.func19, Try.ntmps19
    go_wp2
    go_ret
    exact ⟨by rw [HL.out]; rfl, rfl⟩
  · have HL := hd (show lft left n = left - n from if_neg hl)
    go_enter Try.func19, Try.ntmps19
    go_wp2
    go_ret
    exact ⟨by rw [HL.out]; rfl, rfl⟩
set_option maxHeartbeats 400000 in
theorem toS1_any (a b : Int) (w : World) : Calls Try.prog 39 #[.agg #[.int .i64 a, .int .i64 b]] w fun e w' => e = .returned (.agg #[.int .i64 a, .int .i64 b]) ∧ Below w.heap.size w w' := by
  go_enter Try.func39, Try.ntmps39
  go_wp2
  refine bodyPost_ret (v := .agg #[.int .i64 a, .int .i64 b]) ?_ rfl ⟨rfl, ext_alloc (ext_alloc (ext_alloc (Below.refl _ _) _) _) _⟩
  simp [results, Try.results39, go_sem]
set_option maxHeartbeats 400000 in
theorem eqS1_any (a b c d : Int) (w : World) : Calls Try.prog 40 #[.agg #[.int .i64 a, .int .i64 b], .agg #[.int .i64 c, .int .i64 d]] w fun e w' => e = .returned (.bool (a == c && b == d)) ∧ Below w.heap.size w w' := by
  cases h1 : (a == c) with
  | true =>
    have h1' : (a != c) = false := by rw [bne, h1]; rfl
    cases h2 : (b == d) with
    | true =>
      have h2' : (b != d) = false := by rw [bne, h2]; rfl
      go_enter Try.func40, Try.ntmps40
      go_wp2
      go_ret
      exact ⟨rfl, ext_alloc (ext_alloc (Below.refl _ _) _) _⟩
    | false =>
      have h2' : (b != d) = true := by rw [bne, h2]; rfl
      go_enter Try.func40, Try.ntmps40
      go_wp2
      go_ret
      exact ⟨rfl, ext_alloc (ext_alloc (Below.refl _ _) _) _⟩
  | false =>
    have h1' : (a != c) = true := by rw [bne, h1]; rfl
    go_enter Try.func40, Try.ntmps40
    go_wp2
    go_ret
    exact ⟨rfl, ext_alloc (ext_alloc (Below.refl _ _) _) _⟩
theorem own_cell {w : World} {base n cap g : Nat} {e : TypeId} {k : Nat} {xs : List Value} (h : w.ownsRow base e k (.slice (some ⟨g, 0, none⟩) n cap) n xs) (j : Nat) (hj : j < xs.length) : ∃ u, w.cell? ⟨g, j, none⟩ = some u := by
  refine ⟨xs[j], ?_⟩
  have := h.cells rfl j _ (List.getElem?_eq_getElem hj)
  have e0 : (⟨g, 0, none⟩ : Addr).add j = ⟨g, j, none⟩ := by unfold Addr.add; split <;> simp_all
  rwa [e0] at this
/-- Two cells stored in a row of its own. -/
theorem own_put2 {w : World} {base n cap g : Nat} {e : TypeId} {us : List Value} (h : w.ownsRow base e 2 (.slice (some ⟨g, 0, none⟩) n cap) n us) (i : Nat) (hi : i + 1 < us.length) (a b : Value) :
    (∃ u, w.cell? ⟨g, i, none⟩ = some u) ∧ w.frozen? ⟨g, i, none⟩ = false ∧
    (∃ u, (w.setCell ⟨g, i, none⟩ a).cell? ⟨g, i + 1, none⟩ = some u) ∧ (w.setCell ⟨g, i, none⟩ a).frozen? ⟨g, i + 1, none⟩ = false ∧
    ((w.setCell ⟨g, i, none⟩ a).setCell ⟨g, i + 1, none⟩ b).ownsRow base e 2 (.slice (some ⟨g, 0, none⟩) n cap) n ((us.set i a).set (i + 1) b) ∧
    w.grownBy ((w.setCell ⟨g, i, none⟩ a).setCell ⟨g, i + 1, none⟩ b) (some g) := by
  have s1 := h.stored i a
  have s2 := s1.1.stored (i + 1) b
  exact ⟨own_cell h _ (by omega), h.frozenAt _, own_cell s1.1 _ (by simp; omega), s1.1.frozenAt _, s2.1, grown_same s1.2 s2.2⟩
theorem take_put2 (us : List Value) (i : Nat) (a b : Value) (h : i + 1 < us.length) : ((us.set i a).set (i + 1) b).take (i + 2) = us.take i ++ [a, b] := by
  induction us generalizing i with
  | nil => simp at h
  | cons x r ih =>
    cases i with
    | zero =>
      cases r with
      | nil => simp at h
      | cons y r => rfl
    | succ i =>
      have := ih i (by simpa using h)
      simp only [List.set_cons_succ, List.take_succ_cons, List.cons_append, this]
theorem cst_next {xs : List St} {k : Nat} (h : k < xs.length) {us : List Value} (hu : us.take (k * 2) = cst (xs.take k)) (hl : us.length = xs.length * 2) :
    ((us.set (k * 2) (.int .i64 xs[k].1)).set (k * 2 + 1) (.int .i64 xs[k].2)).take ((k + 1) * 2) = cst (xs.take (k + 1)) := by
  rw [show (k + 1) * 2 = k * 2 + 2 from by omega, take_put2 _ _ _ _ (by omega), hu, List.take_succ_eq_append_getElem h, cst_append]
  rfl
set_option maxHeartbeats 1000000 in
theorem eqSS_any (A A' : Option Addr) (c c' : Nat) (xs ys : List St) (w : World) (h : SlS w A c xs) (h' : SlS w A' c' ys) :
    Calls Try.prog 21 #[.slice A xs.length c, .slice A' ys.length c'] w fun e w' => e = .returned (.bool (eqL xs ys)) ∧ Below w.heap.size w w' := by
  have hmax := h.max
  have hcap := h.cap
  unfold maxLen at hmax
  by_cases hl : xs.length = ys.length
  · have HL := hd hl
    have hlb : ((xs.length : Int) != (ys.length : Int)) = false := by simp [hl]
    have hle : xs.length ≤ ys.length := by omega
    clear hl
    go_enter Try.func21, Try.ntmps21
    go_wp2
    go_loopw [5] (fun i wr => ∃ k : Nat, k ≤ xs.length ∧ i = .int .i64 k ∧ Hid (xs.take k = ys.take k) ∧ Below w.heap.size w wr) (fun i _ => xs.length - (intOf i).toNat)
    case atStart => exact ⟨0, by omega, rfl, rfl, Below.refl _ _⟩
    case round =>
      obtain ⟨k, hk, rfl, HT, hb⟩ := hrel
      by_cases hlt : k < xs.length
      · have hlt' : k < ys.length := by omega
        obtain ⟨ad, rfl, hbl, hc0, hc1⟩ := (h.ext hb).at hlt
        obtain ⟨ad', rfl, hbl', hc0', hc1'⟩ := (h'.ext hb).at hlt'
        have hik : (k : Int) < (ys.length : Int) := by omega
        cases he : (xs[k].1 == ys[k].1 && xs[k].2 == ys[k].2) with
        | true =>
          have e0 : xs[k] = ys[k] := by
            simp only [Bool.and_eq_true, beq_iff_eq] at he
            exact Prod.ext he.1 he.2
          have HT' := hd (take_next hlt hlt' HT.out e0)
          clear e0
          go_wp2_with fail
          go_region_with (go_at_call 40; refine (eqS1_any _ _ _ _ _).mono ?_; rintro e w7 ⟨rfl, hx7⟩; simp only [he])
          all_goals
            go_wp2
            go_roundw
            case rel => exact ⟨k + 1, by omega, by go_num, HT', ext_trans (ext_drew hb) hx7⟩
            case measure => simp [intOf]; omega
        | false =>
          have HE := hd (eqL_at hlt hlt' (fun e0 => by rw [e0] at he; simp at he))
          go_wp2_with fail
          go_region_with (go_at_call 40; refine (eqS1_any _ _ _ _ _).mono ?_; rintro e w7 ⟨rfl, hx7⟩; simp only [he])
          all_goals
            go_wp2
            go_ret
            exact ⟨by rw [HE.out]; rfl, ext_trans (ext_drew hb) hx7⟩
      · obtain rfl : k = xs.length := by omega
        have HE := hd (eqL_all HL.out HT.out)
        go_wp2
        go_ret
        exact ⟨by rw [HE.out]; rfl, hb⟩
  · have HE := hd (eqL_len hl)
    have hlb : ((xs.length : Int) != (ys.length : Int)) = true := by simp; omega
    clear hl
    go_enter Try.func21, Try.ntmps21
    go_wp2
    go_ret
    exact ⟨by rw [HE.out]; rfl, Below.refl _ _⟩
set_option maxHeartbeats 1000000 in
theorem toSS_any (A : Option Addr) (c : Nat) (xs : List St) (w : World) (h : SlS w A c xs) (hl : xs.length ≤ 1048576) :
    Calls Try.prog 20 #[.slice A xs.length c] w (NewS 40 xs w) := by
  have hmax := h.max
  have hcap := h.cap
  unfold maxLen at hmax
  go_enter Try.func20, Try.ntmps20
  obtain ⟨ii, hi1, hi2, hi3, hi4⟩ := info_parts eltS.hi
  go_wp2_with (refine wpList_make_full _ (by rfl) _ _ _ (by rfl) w.heap.size 40 ii _ 2 eltS.ht hi1 hi2 hi3 _ _ _ _ xs.length (by rfl) (by rfl) (by rfl) (by rfl) (by rw [hi4]; omega) (by unfold maxLen; omega) (Nat.le_refl _) ?_; intro w1 hown1 hg1)
  have hz1 : w.heap.size < w1.heap.size := by
    rcases hown1.2 with ⟨h', _⟩ | ⟨g', cap', cur, h', _, hg, _⟩
    · cases h'
    · simp only [Value.slice.injEq, Option.some.injEq, Addr.mk.injEq, and_true, true_and] at h'
      obtain ⟨rfl, rfl⟩ := h'
      exact lt_of_block hg
  have hb1 : Below w.heap.size w w1 := (Below.refl _ _).grown hg1 (Nat.le_refl _) (fun k e => by cases e)
  have HL := hd hown1.1
  obtain ⟨us1, hus1⟩ : ∃ us, us = (madeCells (Value.agg #[Value.int IntKind.i64 0, Value.int IntKind.i64 0]).cells (xs.length * 2)).toList := ⟨_, rfl⟩
  rw [← hus1] at hown1 HL
  clear hus1
  have H1 := hd hown1
  clear hown1
  go_loopw [4] (fun i wr => ∃ (k : Nat) (us : List Value), k ≤ xs.length ∧ i = .int .i64 k ∧ wr.ownsRow w.heap.size 40 2 (.slice (some ⟨w.heap.size, 0, none⟩) xs.length xs.length) xs.length us ∧ Hid (us.length = xs.length * 2) ∧ Hid (us.take (k * 2) = cst (xs.take k)) ∧ Below w.heap.size w wr ∧ w.heap.size < wr.heap.size) (fun i _ => xs.length - (intOf i).toNat)
  case atStart => exact ⟨0, us1, by omega, rfl, H1.out, HL.out, hd (by simp [cst]), hb1, hz1⟩
  case round =>
    clear H1 HL hg1 hb1 hz1 us1
    obtain ⟨k, us, hk, rfl, hown, HL, HT, hb, hzr⟩ := hrel
    by_cases hlt : k < xs.length
    · obtain ⟨ad, rfl, hbl, hc0, hc1⟩ := (h.ext hb).at hlt
      have HO := hd hown
      clear hown
      go_wp2_with (go_at_call 39; refine (toS1_any _ _ _).mono ?_; rintro e w7 ⟨rfl, hx7⟩; have hown7 := own_ext HO.out hx7; obtain ⟨⟨z0, p0⟩, f0, ⟨z1, p1⟩, f1, hown9, hg9⟩ := own_put2 hown7 (k * 2) (by rw [HL.out]; omega) (.int .i64 xs[k].1) (.int .i64 xs[k].2); have H9 := hd (And.intro hown9 hg9); clear hown9 hg9)
      go_roundw
      case rel => exact ⟨k + 1, _, by omega, by go_num, H9.out.1, by rw [List.length_set, List.length_set]; exact HL.out, cst_next hlt HT.out HL.out, (ext_trans hb hx7).grown H9.out.2 (ext_trans hb hx7).size (fun j hj => by injection hj with hj; omega), Nat.lt_of_lt_of_le hzr (Nat.le_trans hx7.size H9.out.2.size)⟩
      case measure => simp [intOf]; omega
    · obtain rfl : k = xs.length := by omega
      go_wp2
      go_ret
      have e1 : us = cst xs := by
        have := HT.out
        rwa [← HL.out, List.take_length, List.take_length] at this
      obtain ⟨A2, c2, e2, hr⟩ := rwS_of_own hown e1 rfl
      exact ⟨A2, c2, by rw [← e2]; rfl, hr, hb⟩
end Go.Proofs.Ytabemhjbpnnlpaa
