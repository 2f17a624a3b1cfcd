/- Contracts of the laws' own functions over caches. -/
import Derived.Test.YtkbbjkjdcdjnbaaWC6
import Derived.Test.YtkbbjkjdcdjnbaaPCl
namespace Go.Proofs.Ytkbbjkjdcdjnbaa
open Go.RowKit
theorem slI_nil (W : World) : SlI W none 0 [] := Sl.nil W 1 none 0 (by decide)
set_option maxHeartbeats 400000 in
theorem lisIn_any (A : Option Addr) (n c : Nat) (xs : List Int) (v : Int) (w : World) (h : SlI w A c xs) (hn : n = xs.length) :
    Calls Try.prog 17 #[.slice A n c, .int .i64 v] w fun e w' => e = .returned (.bool (hasB xs v)) ∧ w' = w := by
  subst hn
  have hmax := h.max
  have hcap := h.cap
  unfold maxLen at hmax
  go_enter Try.func17, Try.ntmps17
  go_wp2
  go_loop [5] (fun i => ∃ (k : Nat), k ≤ xs.length ∧ i = .int .i64 k ∧ Hid (∀ j, j < k → at0 xs j ≠ v)) (fun i => xs.length - (intOf i).toNat)
  case atStart => exact ⟨0, Nat.zero_le _, rfl, fun j hj => absurd hj (Nat.not_lt_zero _)⟩
  case round =>
    obtain ⟨k, hk, rfl, HV⟩ := hrel
    by_cases hlt : k < xs.length
    · obtain ⟨ad, rfl, hbl, hc0⟩ := h.at hlt
      by_cases he : xs[k] = v
      · have g : (xs[k] == v) = true := beq_iff_eq.2 he
        have HR := hd (hasB_at hlt he)
        clear he
        go_wp2
        go_ret
        exact ⟨by rw [HR.out]; rfl, rfl⟩
      · have g : (xs[k] == v) = false := beq_eq_false_iff_ne.2 he
        have HV' := hd (fun j (hj : j < k + 1) => (show at0 xs j ≠ v by
          by_cases e : j = k
          · subst e; rw [at0_of hlt]; exact he
          · exact HV.out j (by omega)))
        clear he
        go_wp2
        go_round
        case rel => exact ⟨k + 1, by omega, by go_num, HV'⟩
        case measure => simp [intOf]; omega
    · obtain rfl : k = xs.length := by omega
      have HR := hd (hasB_none HV.out)
      go_wp2
      go_ret
      exact ⟨by rw [HR.out]; rfl, rfl⟩
set_option maxHeartbeats 1000000 in
theorem without_any (A : Option Addr) (c : Nat) (xs : List Int) (v : Int) (w : World) (h : SlI w A c xs) (hl : xs.length ≤ 1048576) :
    Calls Try.prog 18 #[.slice A xs.length c, .int .i64 v] w (OwnI (lv xs v) w) := by
  have hmax := h.max
  have hcap := h.cap
  unfold maxLen at hmax
  have hb0 : Below w.heap.size w (w.alloc (.cells #[] 3)) := ext_alloc (Below.refl _ _) _
  have ho := hd (own_made w 3 1 [] 0 rfl (by decide))
  have HL := hd h
  go_enter Try.func18, Try.ntmps18
  go_wp2
  go_loopw [5, 6] (fun o i wr => ∃ (k : Nat) (us : List Int), k ≤ xs.length ∧ i = .int .i64 k ∧ us.length ≤ k ∧ Hid (us = lv (xs.take k) v) ∧ Hid (wr.ownsRow w.heap.size 3 1 o us.length (ci us)) ∧ Below w.heap.size w wr) (fun _ i _ => xs.length - (intOf i).toNat)
  case atStart => exact ⟨0, [], Nat.zero_le _, rfl, by simp, rfl, ho.out, hb0⟩
  case round =>
    clear ho hb0 h
    obtain ⟨k, us, hk, rfl, hus, HU, HO, hb⟩ := hrel
    by_cases hlt : k < xs.length
    · obtain ⟨ad, rfl, hbl, hc0⟩ := SlI.at (SlI.ext HL.out hb) hlt
      have hz := hb.size
      by_cases he : xs[k] = v
      · have g : (xs[k] != v) = false := by simp [he]
        have HU' := hd (show us = lv (xs.take (k + 1)) v by rw [lv_take hlt, if_pos he]; exact HU.out)
        clear he
        go_wp2
        go_roundw
        case rel => exact ⟨k + 1, us, by omega, by go_num, by omega, HU', HO, hb⟩
        case measure => simp [intOf]; omega
      · have g : (xs[k] != v) = true := by simp [he]
        have HU' := hd (show us ++ [xs[k]] = lv (xs.take (k + 1)) v by rw [lv_take hlt, if_neg he, HU.out])
        clear he
        go_wp2_with (at_builtin; refine wpList_app eltI _ _ (news := ci [xs[k]]) (m := 1) HO.out rfl (ci_one _) (by omega) (by omega) hz (by rfl) (by rfl) (by rfl) (by rfl) ?_; intro v' w4 hown4 hg4)
        go_roundw
        case rel => exact ⟨k + 1, us ++ [xs[k]], by omega, by go_num, by simp; omega, HU', hd (by rw [ci_append, List.length_append]; exact hown4), hb.grown hg4 hz (own_ge HO.out)⟩
        case measure => simp [intOf]; omega
    · obtain rfl : k = xs.length := by omega
      have HE := hd (show us = lv xs v by rw [HU.out, List.take_length])
      go_wp2
      go_ret
      rw [← HE.out]
      exact ⟨_, rfl, HO.out, hb⟩
set_option maxHeartbeats 1000000 in
theorem equalC_same (t : Int) (A : Option Addr) (c : Nat) (xs : List Int) (A' : Option Addr) (c' : Nat) (w : World) (h : SlI w A c xs) (k : SlI w A' c' xs) :
    Calls Try.prog 16 #[.agg #[.int .i64 t, .slice A xs.length c], .agg #[.int .i64 t, .slice A' xs.length c']] w fun e w' => e = .returned (.bool true) ∧ Below w.heap.size w w' := by
  obtain ⟨W0, hW0⟩ : ∃ W0, W0 = (w.alloc (.cells #[.int .i64 t, .slice A xs.length c] 25)).alloc (.cells #[.int .i64 t, .slice A' xs.length c'] 25) := ⟨_, rfl⟩
  have hb0 : Below w.heap.size w W0 := by rw [hW0]; exact ext_alloc (ext_alloc (Below.refl _ _) _) _
  have bA : Cx 25 W0 w.heap.size (.int .i64 t) (.slice A xs.length c) := by rw [hW0]; exact (Cx.new w _ _).alloc _
  have bR : Cx 25 W0 (w.heap.size + 1) (.int .i64 t) (.slice A' xs.length c') := by
    have := Cx.new (e := 25) (w.alloc (.cells #[.int .i64 t, .slice A xs.length c] 25)) (.int .i64 t) (.slice A' xs.length c')
    rw [World.size_alloc] at this
    rw [hW0]
    exact this
  have HB0 := hd hb0
  have s1 := h.ext hb0
  have s2 := k.ext hb0
  have S1 := hd (sameI_self xs)
  have gt : (t == t) = true := by simp
  have c0 := bA.c0
  have d0 := bR.c0
  have c1 := bA.c1
  have d1 := bR.c1
  clear bA bR hb0 h k
  go_enter Try.func16, Try.ntmps16
  go_wp2_with fail
  rw [← hW0]
  clear hW0
  refine (equalInts_any _ _ _ _ _ _ _ s1 s2).mono ?_
  rintro e w1 ⟨rfl, hx⟩
  rw [S1.out]
  go_wp2
  go_ret
  exact ⟨rfl, HB0.out.trans (hx.mono HB0.out.size)⟩
end Go.Proofs.Ytkbbjkjdcdjnbaa
