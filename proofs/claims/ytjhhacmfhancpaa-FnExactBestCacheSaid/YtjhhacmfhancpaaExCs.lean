/- The exact laws' small functions over lists of caches: sizes, copies, equality. -/
import Derived.Test.YtjhhacmfhancpaaExCb
import Derived.Test.YtjhhacmfhancpaaWBc
namespace Go.Proofs.Ytjhhacmfhancpaa
open Go.RowKit
theorem eltCC : Elt Try.prog 42 27 (.agg #[.int .i64 0, .slice none 0 0]) 2 32 := ⟨Try.underlying42, by kernel_rfl, rfl, by decide⟩
theorem lft_two' {k m : Nat} (hk : k ≤ 1048576) : (lft (k : Int) m = -1) ∨ ∃ j : Nat, lft (k : Int) m = (j : Int) ∧ j ≤ 1048576 ∧ m ≤ 1048576 := by
  unfold lft
  by_cases h : (k : Int) - m < 0
  · exact .inl (if_pos h)
  · exact .inr ⟨k - m, by rw [if_neg h]; omega, by omega, by omega⟩
theorem own_cellC {w : World} {base n cap g : Nat} {e : TypeId} {k : Nat} {xs : List Value} (h : w.ownsRow base e k (.slice (some ⟨g, 0, none⟩) n cap) n xs) (j : Nat) (hj : j < xs.length) : ∃ u, w.cell? ⟨g, j, none⟩ = some u := own_cell' h j hj
/-- Two cells stored in a row of its own. -/
theorem own_put2C {w : World} {base n cap g : Nat} {e : TypeId} {us : List Value} (h : w.ownsRow base e 2 (.slice (some ⟨g, 0, none⟩) n cap) n us) (i : Nat) (hi : i + 1 < us.length) (a b : Value) :
    (∃ u, w.cell? ⟨g, i, none⟩ = some u) ∧ w.frozen? ⟨g, i, none⟩ = false ∧
    (∃ u, (w.setCell ⟨g, i, none⟩ a).cell? ⟨g, i + 1, none⟩ = some u) ∧ (w.setCell ⟨g, i, none⟩ a).frozen? ⟨g, i + 1, none⟩ = false ∧
    ((w.setCell ⟨g, i, none⟩ a).setCell ⟨g, i + 1, none⟩ b).ownsRow base e 2 (.slice (some ⟨g, 0, none⟩) n cap) n ((us.set i a).set (i + 1) b) ∧
    w.grownBy ((w.setCell ⟨g, i, none⟩ a).setCell ⟨g, i + 1, none⟩ b) (some g) := by
  have s1 := h.stored i a
  have s2 := s1.1.stored (i + 1) b
  exact ⟨own_cellC h _ (by omega), h.frozenAt _, own_cellC s1.1 _ (by simp; omega), s1.1.frozenAt _, s2.1, grown_same s1.2 s2.2⟩
theorem take_put2C (us : List Value) (i : Nat) (a b : Value) (h : i + 1 < us.length) : ((us.set i a).set (i + 1) b).take (i + 2) = us.take i ++ [a, b] := by
  induction us generalizing i with
  | nil => simp at h
  | cons x r ih =>
    cases i with
    | zero =>
      cases r with
      | nil => simp at h
      | cons y r => rfl
    | succ i =>
      have := ih i (by simpa using h)
      simp only [List.set_cons_succ, List.take_succ_cons, List.cons_append, this]
theorem ccr_next {qs : List Cr} {k n : Nat} (hk : qs.length = k) (h : k < n) {us : List Value} (hu : us.take (k * 2) = ccr qs) (hl : us.length = n * 2) (r : Cr) :
    ((us.set (k * 2) (.int .i64 r.1)).set (k * 2 + 1) r.v).take ((k + 1) * 2) = ccr (qs ++ [r]) := by
  rw [show (k + 1) * 2 = k * 2 + 2 from by omega, take_put2C _ _ _ _ (by omega), hu, ccr_append]
  rfl
theorem crs_next {rs qs : List Cr} {k : Nat} (h : k < rs.length) (hq : crs qs = (crs rs).take k) (r : Cr) (e : (r.1, r.2.2.2) = (rs[k].1, rs[k].2.2.2)) : crs (qs ++ [r]) = (crs rs).take (k + 1) := by
  rw [List.take_succ_eq_append_getElem (by rw [crs_len]; exact h), crs_at rs k h, ← hq, ← e]
  simp [crs]
set_option maxHeartbeats 400000 in
theorem szC_left (t : Int) (A : Option Addr) (n c left : Nat) (w : World) (hn : n ≤ 9223372036854775807) (h1 : left ≤ 1048576) :
    Calls Try.prog 8 #[.agg #[.int .i64 t, .slice A n c], .int .i64 (left : Int)] w fun e w' => e = .returned (.int .i64 (lft left n)) ∧ Below w.heap.size w w' := by
  rcases lft_two' (m := n) h1 with hk | ⟨k, hk, hk1, hk2⟩
  · have HK := hd hk
    clear hk
    go_enter Try.func8, Try.ntmps8
    go_wp2_with fail
    refine (szIS_any A _ c left _ hn (by omega) (by omega)).mono ?_
    rintro e w' ⟨rfl, rfl⟩
    rw [HK.out]
    go_wp2
    go_ret
    exact ⟨by rw [HK.out]; rfl, ext_alloc (Below.refl _ _) _⟩
  · have HK := hd hk
    clear hk
    go_enter Try.func8, Try.ntmps8
    go_wp2_with fail
    refine (szIS_any A _ c left _ hn (by omega) (by omega)).mono ?_
    rintro e w' ⟨rfl, rfl⟩
    rw [HK.out]
    go_wp2
    go_ret
    exact ⟨by rw [HK.out]; rfl, ext_alloc (Below.refl _ _) _⟩
/-- What a list's size tells. -/
def SzL (rs : List Cr) (w : World) (e : Ending) (w' : World) : Prop :=
  Below w.heap.size w w' ∧ (e = .returned (.int .i64 (-1)) ∨ ∃ m : Nat, e = .returned (.int .i64 (m : Int)) ∧ rs.length ≤ 1048576 ∧ Hid (∀ r ∈ rs, r.2.2.2.length ≤ 1048576))
set_option maxHeartbeats 1000000 in
theorem szCL_any (A : Option Addr) (c : Nat) (rs : List Cr) (w : World) (h : SlC w A c rs) :
    Calls Try.prog 23 #[.slice A rs.length c, .int .i64 1048576] w (SzL rs w) := by
  have hmax := h.1.max
  have hcap := h.1.cap
  unfold maxLen at hmax
  have hw : IntKind.i64.wrap (1048576 - (rs.length : Int)) = 1048576 - (rs.length : Int) := by rw [IntKind.wrap_i64]; omega
  by_cases hl : rs.length ≤ 1048576
  · have hg : ¬ (1048576 - (rs.length : Int) < 0) := by omega
    go_enter Try.func23, Try.ntmps23
    go_wp2
    go_loopw [1, 5] (fun v i wr => ∃ (k m : Nat), k ≤ rs.length ∧ i = .int .i64 k ∧ v = .int .i64 (m : Int) ∧ m ≤ 1048576 ∧ Hid (∀ j, (hj : j < rs.length) → j < k → rs[j].2.2.2.length ≤ 1048576) ∧ Below w.heap.size w wr) (fun _ i _ => rs.length - (intOf i).toNat)
    case atStart => exact ⟨0, 1048576 - rs.length, by omega, rfl, by rw [show (1048576 - (rs.length : Int)) = ((1048576 - rs.length : Nat) : Int) from by omega], by omega, fun j _ h0 => absurd h0 (by omega), Below.refl _ _⟩
    case round =>
      obtain ⟨k, m, hk, rfl, rfl, hm, HA, hb⟩ := hrel
      by_cases hlt : k < rs.length
      · obtain ⟨ad, rfl, hbl, c0, c1, s⟩ := (h.ext hb).at hlt
        have hsm := s.max
        have hsc := s.cap
        unfold maxLen at hsm
        have hn : rs[k].2.2.2.length ≤ 9223372036854775807 := by omega
        clear hsm hsc
        rcases lft_two' (m := rs[k].2.2.2.length) hm with hk | ⟨j, hk, hk1, hk2⟩
        · have HK := hd hk
          clear hk
          go_wp2_with fail
          refine (szC_left _ _ _ _ m _ hn hm).mono ?_
          rintro e w1 ⟨rfl, hx⟩
          rw [HK.out]
          go_wp2
          go_ret
          exact ⟨ext_trans hb hx, .inl rfl⟩
        · have HK := hd hk
          clear hk
          have HA' := hd (show ∀ j, (hj : j < rs.length) → j < k + 1 → rs[j].2.2.2.length ≤ 1048576 from fun j hj hjk => by
            rcases Nat.lt_or_ge j k with h1 | h1
            · exact HA.out j hj h1
            · obtain rfl : j = k := by omega
              exact hk2)
          go_wp2_with fail
          refine (szC_left _ _ _ _ m _ hn hm).mono ?_
          rintro e w1 ⟨rfl, hx⟩
          rw [HK.out]
          go_wp2
          go_roundw
          case rel => exact ⟨k + 1, j, by omega, by go_num, rfl, hk1, HA', ext_trans hb hx⟩
          case measure => simp [intOf]; omega
      · obtain rfl : k = rs.length := by omega
        go_wp2
        go_ret
        exact ⟨hb, .inr ⟨m, rfl, hl, fun r hr => by
          obtain ⟨j, hj, rfl⟩ := List.getElem_of_mem hr
          exact HA.out j hj hj⟩⟩
  · have hg : (1048576 - (rs.length : Int) < 0) := by omega
    go_enter Try.func23, Try.ntmps23
    go_wp2
    go_ret
    exact ⟨Below.refl _ _, .inl rfl⟩
/-- A copy of caches, all in new memory. -/
def NwL (rs : List Cr) (w : World) (e : Ending) (w' : World) : Prop :=
  ∃ (P : Option Addr) (p : Nat) (qs : List Cr), Hid (crs qs = crs rs) ∧ e = .returned (.slice P qs.length p) ∧ SlC w' P p qs ∧ Below w.heap.size w w'
set_option maxHeartbeats 2000000 in
theorem toCL_any (A : Option Addr) (c : Nat) (rs : List Cr) (w : World) (h : SlC w A c rs) (hl : rs.length ≤ 1048576) (H : Hid (∀ r ∈ rs, r.2.2.2.length ≤ 1048576)) :
    Calls Try.prog 25 #[.slice A rs.length c] w (NwL rs w) := by
  have hmax := h.1.max
  have hcap := h.1.cap
  unfold maxLen at hmax
  go_enter Try.func25, Try.ntmps25
  obtain ⟨ii, hi1, hi2, hi3, hi4⟩ := info_parts eltCC.hi
  go_wp2_with (refine wpList_make_full _ (by rfl) _ _ _ (by rfl) w.heap.size 27 ii _ 2 eltCC.ht hi1 hi2 hi3 _ _ _ _ rs.length (by rfl) (by rfl) (by rfl) (by rfl) (by rw [hi4]; omega) (by unfold maxLen; omega) (Nat.le_refl _) ?_; intro w1 hown1 hg1)
  have hz1 : w.heap.size < w1.heap.size := by
    rcases hown1.2 with ⟨h', _⟩ | ⟨g', cap', cur, h', _, hg, _⟩
    · cases h'
    · simp only [Value.slice.injEq, Option.some.injEq, Addr.mk.injEq, and_true, true_and] at h'
      obtain ⟨rfl, rfl⟩ := h'
      exact lt_of_block hg
  have hb1 : Below w.heap.size w w1 := (Below.refl _ _).grown hg1 (Nat.le_refl _) (fun k e => by cases e)
  have HL := hd hown1.1
  obtain ⟨us1, hus1⟩ : ∃ us, us = (madeCells (Value.agg #[Value.int IntKind.i64 0, Value.slice none 0 0]).cells (rs.length * 2)).toList := ⟨_, rfl⟩
  rw [← hus1] at hown1 HL
  clear hus1
  have H1 := hd hown1
  clear hown1
  go_loopw [4] (fun i wr => ∃ (k : Nat) (us : List Value) (qs : List Cr), k ≤ rs.length ∧ i = .int .i64 k ∧ wr.ownsRow w.heap.size 27 2 (.slice (some ⟨w.heap.size, 0, none⟩) rs.length rs.length) rs.length us ∧ Hid (us.length = rs.length * 2) ∧ Hid (us.take (k * 2) = ccr qs) ∧ Hid (crs qs = (crs rs).take k) ∧ Hid (∀ r ∈ qs, SlI wr r.2.1 r.2.2.1 r.2.2.2 ∧ ∀ j, rowOf r.2.1 r.2.2.2.length = some j → j ≠ w.heap.size) ∧ Below w.heap.size w wr ∧ w.heap.size < wr.heap.size) (fun i _ => rs.length - (intOf i).toNat)
  case atStart => exact ⟨0, us1, [], by omega, rfl, H1.out, HL.out, hd (by simp [ccr]), hd (by simp [crs]), fun r hr => by simp at hr, hb1, hz1⟩
  case round =>
    clear H1 HL hg1 hb1 hz1 us1
    obtain ⟨k, us, qs, hk, rfl, hown, HL, HT, HQ, HS, hb, hzr⟩ := hrel
    by_cases hlt : k < rs.length
    · obtain ⟨ad, rfl, hbl, c0, c1, s⟩ := (h.ext hb).at hlt
      have hn : rs[k].2.2.2.length ≤ 1048576 := H.out _ (List.getElem_mem hlt)
      have HO := hd hown
      clear hown
      go_wp2_with fail
      refine (toC_any _ _ _ _ _ s hn).mono ?_
      rintro e w7 ⟨P, p, rfl, r7, hx7⟩
      have hown7 := own_ext HO.out hx7
      obtain ⟨⟨z0, p0⟩, f0, ⟨z1, p1⟩, f1, hown9, hg9⟩ := own_put2C hown7 (k * 2) (by rw [HL.out]; omega) (.int .i64 rs[k].1) (.slice P rs[k].2.2.2.length p)
      have H9 := hd (And.intro hown9 hg9)
      have HR := hd r7
      have hx := hd hx7
      clear hown9 hg9 hown7 r7 s
      go_wp2
      go_roundw
      case rel =>
        have hql : qs.length = k := by
          have := congrArg List.length HQ.out
          rw [crs_len, List.length_take, crs_len] at this
          omega
        refine ⟨k + 1, _, qs ++ [(rs[k].1, P, p, rs[k].2.2.2)], by omega, by go_num, H9.out.1, by rw [List.length_set, List.length_set]; exact HL.out, ccr_next hql hlt HT.out HL.out (rs[k].1, P, p, rs[k].2.2.2), crs_next hlt HQ.out _ rfl, ?_, (ext_trans hb hx7).grown H9.out.2 (ext_trans hb hx7).size (fun j hj => by injection hj with hj; omega), Nat.lt_of_lt_of_le hzr (Nat.le_trans hx7.size H9.out.2.size)⟩
        intro r hr
        rcases List.mem_append.1 hr with hr | hr
        · obtain ⟨a1, a2⟩ := HS.out r hr
          exact ⟨Sl.apart (a1.ext hx.out) H9.out.2 (fun j hj e => by injection e with e; exact a2 j hj e.symm), a2⟩
        · rw [List.mem_singleton] at hr
          subst hr
          have hrow : ∀ j, rowOf P rs[k].2.2.2.length = some j → j ≠ w.heap.size := fun j hj => by
            have := (Rw.row HR.out j hj).1
            omega
          exact ⟨Sl.apart HR.out.sl H9.out.2 (fun j hj e => by injection e with e; exact hrow j hj e.symm), hrow⟩
      case measure => simp [intOf]; omega
    · obtain rfl : k = rs.length := by omega
      have HE := hd (show us = ccr qs by
        have := HT.out
        rwa [← HL.out, List.take_length] at this)
      have HQ' := hd (show crs qs = crs rs by
        have := HQ.out
        rwa [← crs_len rs, List.take_length] at this)
      have HZ := hd (show rs.length = qs.length by
        have := congrArg List.length HQ'.out
        rw [crs_len, crs_len] at this
        exact this.symm)
      have HO := hd hown
      clear hown
      go_wp2
      go_ret
      refine ⟨some ⟨w.heap.size, 0, none⟩, rs.length, qs, HQ', by rw [← HZ.out]; rfl, ⟨?_, fun r hr => (HS.out r hr).1⟩, hb⟩
      have ho := HO.out
      obtain ⟨A2, c2, e2, hr, _⟩ := Sl.of_own ho
      injection e2 with e2 _ e3
      subst e2 e3
      rw [HE.out] at hr
      rw [← HZ.out]
      exact hr
set_option maxHeartbeats 2000000 in
theorem eqCL_any (A A' : Option Addr) (c c' : Nat) (rs qs : List Cr) (w : World) (h : SlC w A c rs) (h' : SlC w A' c' qs) (H : Hid (crs qs = crs rs)) :
    Calls Try.prog 27 #[.slice A rs.length c, .slice A' qs.length c'] w fun e w' => e = .returned (.bool true) ∧ Below w.heap.size w w' := by
  have hmax := h.1.max
  have hcap := h.1.cap
  unfold maxLen at hmax
  have HZ := hd (show rs.length = qs.length by
    have := congrArg List.length H.out
    rw [crs_len, crs_len] at this
    exact this.symm)
  have hlb : ((rs.length : Int) != (qs.length : Int)) = false := by simp [HZ.out]
  have hle : rs.length ≤ qs.length := by have := HZ.out; omega
  go_enter Try.func27, Try.ntmps27
  go_wp2
  go_loopw [5] (fun i wr => ∃ k : Nat, k ≤ rs.length ∧ i = .int .i64 k ∧ Below w.heap.size w wr) (fun i _ => rs.length - (intOf i).toNat)
  case atStart => exact ⟨0, by omega, rfl, Below.refl _ _⟩
  case round =>
    obtain ⟨k, hk, rfl, hb⟩ := hrel
    by_cases hlt : k < rs.length
    · have hlt' : k < qs.length := by omega
      obtain ⟨ad, rfl, hbl, hc0, hc1, s⟩ := (h.ext hb).at hlt
      obtain ⟨ad', rfl, hbl', hc0', hc1', s'⟩ := (h'.ext hb).at hlt'
      have hik : (k : Int) < (qs.length : Int) := by omega
      have he : (qs[k].1, qs[k].2.2.2) = (rs[k].1, rs[k].2.2.2) := by
        rw [← crs_at qs k hlt', ← crs_at rs k hlt]
        simp only [H.out]
      rw [Prod.mk.injEq] at he
      rw [he.1] at hc0'
      rw [he.2] at hc1' s'
      clear he
      go_wp2_with fail
      have v0 := s.ext (ext_drew (Below.refl _ _))
      have v1 := s'.ext (ext_drew (Below.refl _ _))
      go_region_with (go_at_call 12; refine (eqC_same _ _ _ _ _ _ _ v0 v1).mono ?_; rintro e w7 ⟨rfl, hx7⟩)
      all_goals
        go_wp2
        go_roundw
        case rel => exact ⟨k + 1, by omega, by go_num, ext_trans (ext_drew hb) hx7⟩
        case measure => simp [intOf]; omega
    · obtain rfl : k = rs.length := by omega
      go_wp2
      go_ret
      exact ⟨rfl, hb⟩
end Go.Proofs.Ytjhhacmfhancpaa
