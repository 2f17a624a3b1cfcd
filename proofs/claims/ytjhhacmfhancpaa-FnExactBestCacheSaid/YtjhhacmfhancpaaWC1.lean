/- Contracts on caches: membership, difference, ValidCache of both. -/
import Derived.Test.YtjhhacmfhancpaaMCa
import Derived.Test.YtjhhacmfhancpaaPCa
namespace Go.Proofs.Ytjhhacmfhancpaa
open Go.RowKit
theorem ixB_hit {xs : List Int} {v : Int} {k : Nat} (hk : k < xs.length) (he : xs[k] = v) (hf : ∀ j, j < k → at0 xs j ≠ v) : ixB xs v = (k : Int) := by
  subst he; exact ixB_some hk hf
theorem not_mem_of {xs : List Int} {v : Int} (hf : ∀ j, j < xs.length → at0 xs j ≠ v) : v ∉ xs := fun h => by
  obtain ⟨i, hi, e⟩ := List.mem_iff_getElem.1 h
  exact hf i hi (by rw [at0_of hi]; exact e)
theorem ixB_pos (xs : List Int) (v : Int) : decide (0 ≤ ixB xs v) = hasB xs v := by
  unfold hasB
  by_cases h : v ∈ xs
  · obtain ⟨i, hi, e, -⟩ := ixB_at h
    rw [e, decide_eq_true h]; exact decide_eq_true (by omega)
  · rw [ixB_none h, decide_eq_false h]; rfl
theorem hasB_at {xs : List Int} {v : Int} {k : Nat} (hk : k < xs.length) (he : xs[k] = v) : hasB xs v = true := hasB_iff.2 (he ▸ List.getElem_mem hk)
theorem hasB_none {xs : List Int} {v : Int} (hf : ∀ j, j < xs.length → at0 xs j ≠ v) : hasB xs v = false := hasB_no.2 (not_mem_of hf)
set_option maxHeartbeats 400000 in
theorem idx_any (A : Option Addr) (c : Nat) (xs : List Int) (v : Int) (w : World) (h : SlI w A c xs) :
    Calls Try.prog 34 #[.slice A xs.length c, .int .i64 v] w fun e w' => e = .returned (.int .i64 (ixB xs v)) ∧ w = w' := by
  have hmax := h.max
  have hcap := h.cap
  unfold maxLen at hmax
  go_enter Try.func34, Try.ntmps34
  go_wp2
  go_loop [5, 8] (fun _ i => ∃ (k : Nat), k ≤ xs.length ∧ i = .int .i64 k ∧ Hid (∀ j, j < k → at0 xs j ≠ v)) (fun _ i => xs.length - (intOf i).toNat)
  case atStart => exact ⟨0, Nat.zero_le _, rfl, fun j hj => absurd hj (Nat.not_lt_zero _)⟩
  case round =>
    obtain ⟨k, hk, rfl, HV⟩ := hrel
    by_cases hlt : k < xs.length
    · obtain ⟨ad, rfl, hbl, hc0⟩ := h.at hlt
      by_cases he : xs[k] = v
      · have g : (v == xs[k]) = true := beq_iff_eq.2 he.symm
        have HR := hd (ixB_hit hlt he HV.out)
        clear he
        go_wp2
        go_ret
        exact ⟨by rw [HR.out]; rfl, rfl⟩
      · have g : (v == xs[k]) = false := beq_eq_false_iff_ne.2 (fun e => he e.symm)
        have HV' := hd (fun j (hj : j < k + 1) => (show at0 xs j ≠ v by
          by_cases e : j = k
          · subst e; rw [at0_of hlt]; exact he
          · exact HV.out j (by omega)))
        clear he
        go_wp2
        go_round
        case rel => exact ⟨k + 1, by omega, by go_num, HV'⟩
        case measure => simp [intOf]; omega
    · obtain rfl : k = xs.length := by omega
      have HR := hd (ixB_none (not_mem_of HV.out))
      go_wp2
      go_ret
      exact ⟨by rw [HR.out]; rfl, rfl⟩
set_option maxHeartbeats 400000 in
theorem cont_any (A : Option Addr) (n c : Nat) (xs : List Int) (v : Int) (w : World) (h : SlI w A c xs) (hn : n = xs.length) :
    Calls Try.prog 46 #[.slice A n c, .int .i64 v] w fun e w' => e = .returned (.bool (hasB xs v)) ∧ w' = w := by
  subst hn
  have HP := hd (ixB_pos xs v)
  go_enter Try.func46, Try.ntmps46
  go_wp2_with fail
  refine (idx_any A c xs v w h).mono ?_
  rintro e w' ⟨rfl, rfl⟩
  go_wp2
  go_ret
  exact ⟨by rw [← HP.out]; rfl, rfl⟩
set_option maxHeartbeats 400000 in
theorem isIn_any (A : Option Addr) (n c : Nat) (xs : List Int) (v : Int) (w : World) (h : SlI w A c xs) (hn : n = xs.length) :
    Calls Try.prog 32 #[.slice A n c, .int .i64 v] w fun e w' => e = .returned (.bool (hasB xs v)) ∧ w' = w := by
  subst hn
  have hmax := h.max
  have hcap := h.cap
  unfold maxLen at hmax
  go_enter Try.func32, Try.ntmps32
  go_wp2
  go_loop [5] (fun i => ∃ (k : Nat), k ≤ xs.length ∧ i = .int .i64 k ∧ Hid (∀ j, j < k → at0 xs j ≠ v)) (fun i => xs.length - (intOf i).toNat)
  case atStart => exact ⟨0, Nat.zero_le _, rfl, fun j hj => absurd hj (Nat.not_lt_zero _)⟩
  case round =>
    obtain ⟨k, hk, rfl, HV⟩ := hrel
    by_cases hlt : k < xs.length
    · obtain ⟨ad, rfl, hbl, hc0⟩ := h.at hlt
      by_cases he : xs[k] = v
      · have g : (xs[k] == v) = true := beq_iff_eq.2 he
        have HR := hd (hasB_at hlt he)
        clear he
        go_wp2
        go_ret
        exact ⟨by rw [HR.out]; rfl, rfl⟩
      · have g : (xs[k] == v) = false := beq_eq_false_iff_ne.2 he
        have HV' := hd (fun j (hj : j < k + 1) => (show at0 xs j ≠ v by
          by_cases e : j = k
          · subst e; rw [at0_of hlt]; exact he
          · exact HV.out j (by omega)))
        clear he
        go_wp2
        go_round
        case rel => exact ⟨k + 1, by omega, by go_num, HV'⟩
        case measure => simp [intOf]; omega
    · obtain rfl : k = xs.length := by omega
      have HR := hd (hasB_none HV.out)
      go_wp2
      go_ret
      exact ⟨by rw [HR.out]; rfl, rfl⟩
theorem toInt_any (b : Bool) (w : World) : Calls Try.prog 44 #[.bool b] w fun e w' => e = .returned (.int .i64 (if b = true then 1 else 0)) ∧ w' = w := by
  cases b
  · go_enter Try.func44, Try.ntmps44
    go_wp2
    go_ret
    exact ⟨rfl, rfl⟩
  · go_enter Try.func44, Try.ntmps44
    go_wp2
    go_ret
    exact ⟨rfl, rfl⟩
set_option maxHeartbeats 1000000 in
theorem leave_any (A : Option Addr) (c : Nat) (xs : List Int) (v : Int) (w : World) (h : SlI w A c xs) (hl : xs.length ≤ 1048576) :
    Calls Try.prog 33 #[.slice A xs.length c, .int .i64 v] w (OwnI (lv xs v) w) := by
  have hmax := h.max
  have hcap := h.cap
  unfold maxLen at hmax
  have hb0 : Below w.heap.size w (w.alloc (.cells #[] 3)) := ext_alloc (Below.refl _ _) _
  have ho := hd (own_made w 3 1 [] 0 rfl (by decide))
  have HL := hd h
  go_enter Try.func33, Try.ntmps33
  go_wp2
  go_loopw [5, 6] (fun o i wr => ∃ (k : Nat) (us : List Int), k ≤ xs.length ∧ i = .int .i64 k ∧ us.length ≤ k ∧ Hid (us = lv (xs.take k) v) ∧ Hid (wr.ownsRow w.heap.size 3 1 o us.length (ci us)) ∧ Below w.heap.size w wr) (fun _ i _ => xs.length - (intOf i).toNat)
  case atStart => exact ⟨0, [], Nat.zero_le _, rfl, by simp, rfl, ho.out, hb0⟩
  case round =>
    clear ho hb0 h
    obtain ⟨k, us, hk, rfl, hus, HU, HO, hb⟩ := hrel
    by_cases hlt : k < xs.length
    · obtain ⟨ad, rfl, hbl, hc0⟩ := SlI.at (SlI.ext HL.out hb) hlt
      have hz := hb.size
      by_cases he : xs[k] = v
      · have g : (xs[k] != v) = false := by simp [he]
        have HU' := hd (show us = lv (xs.take (k + 1)) v by rw [lv_take hlt, if_pos he]; exact HU.out)
        clear he
        go_wp2
        go_roundw
        case rel => exact ⟨k + 1, us, by omega, by go_num, by omega, HU', HO, hb⟩
        case measure => simp [intOf]; omega
      · have g : (xs[k] != v) = true := by simp [he]
        have HU' := hd (show us ++ [xs[k]] = lv (xs.take (k + 1)) v by rw [lv_take hlt, if_neg he, HU.out])
        clear he
        go_wp2_with (at_builtin; refine wpList_app eltI _ _ (news := ci [xs[k]]) (m := 1) HO.out rfl (ci_one _) (by omega) (by omega) hz (by rfl) (by rfl) (by rfl) (by rfl) ?_; intro v' w4 hown4 hg4)
        go_roundw
        case rel => exact ⟨k + 1, us ++ [xs[k]], by omega, by go_num, by simp; omega, HU', hd (by rw [ci_append, List.length_append]; exact hown4), hb.grown hg4 hz (own_ge HO.out)⟩
        case measure => simp [intOf]; omega
    · obtain rfl : k = xs.length := by omega
      have HE := hd (show us = lv xs v by rw [HU.out, List.take_length])
      go_wp2
      go_ret
      rw [← HE.out]
      exact ⟨_, rfl, HO.out, hb⟩
theorem difB_rng {xs : List Int} (h : allL xs 0 9 = false) : difB xs = false := by simp only [difB, h, Bool.false_and]
theorem difB_dup {xs : List Int} {k : Nat} (hk : k < xs.length) (h : hasB (xs.take k) xs[k] = true) : difB xs = false := by
  obtain ⟨j, hj, e⟩ := List.mem_iff_getElem.1 (hasB_iff.1 h)
  have hjk : j < k := by rw [List.length_take] at hj; omega
  have h1 : ndB xs = false := ndB_no hk hjk (by rw [at0_of (by omega), at0_of hk]; rw [List.getElem_take] at e; exact e)
  simp only [difB, h1, Bool.and_false]
theorem ndU_take {xs : List Int} {k : Nat} (hk : k < xs.length) (hn : NdU xs k) (h : hasB (xs.take k) xs[k] = false) : NdU xs (k + 1) := ndU_next hn fun j hj e => by
  refine hasB_no.1 h ?_
  rw [at0_of (by omega), at0_of hk] at e
  rw [← e]
  exact List.mem_iff_getElem.2 ⟨j, by rw [List.length_take]; omega, by rw [List.getElem_take]⟩
set_option maxHeartbeats 1000000 in
theorem diff_any (A : Option Addr) (c : Nat) (xs : List Int) (w : World) (h : SlI w A c xs) :
    Calls Try.prog 31 #[.slice A xs.length c] w fun e w' => e = .returned (.bool (difB xs)) ∧ w = w' := by
  have hmax := h.max
  have hcap := h.cap
  unfold maxLen at hmax
  go_enter Try.func31, Try.ntmps31
  go_wp2
  go_loop [7] (fun i => ∃ (k : Nat), k ≤ xs.length ∧ i = .int .i64 k ∧ Hid (NdU xs k) ∧ Hid (allL xs 0 9 = allL (xs.drop k) 0 9)) (fun i => xs.length - (intOf i).toNat)
  case atStart => exact ⟨0, Nat.zero_le _, rfl, fun i hi => absurd hi (Nat.not_lt_zero _), rfl⟩
  case round =>
    obtain ⟨k, hk, rfl, HN, HV⟩ := hrel
    by_cases hlt : k < xs.length
    · obtain ⟨ad, rfl, hbl, hc0⟩ := h.at hlt
      have hkc : k ≤ c := by omega
      cases h1 : inB xs[k] 0 9 with
      | false =>
        have HR := hd (difB_rng (HV.out.trans (allL_no hlt h1)))
        go_wp2_with (go_at_call 30; refine (in_any _ _ _ _).mono ?_; rintro e w' ⟨rfl, rfl⟩; rw [h1])
        go_ret
        exact ⟨by rw [HR.out]; rfl, rfl⟩
      | true =>
        have HV' := hd (HV.out.trans (allL_yes hlt h1))
        have hl' : k = (xs.take k).length := by rw [List.length_take]; omega
        have HT := hd (cont_any (some ad) k c (xs.take k) xs[k] w (h.take hk) hl')
        clear hl'
        cases h2 : hasB (xs.take k) xs[k] with
        | true =>
          have HR := hd (difB_dup hlt h2)
          go_wp2_with (first | (go_at_call 30; refine (in_any _ _ _ _).mono ?_; rintro e w' ⟨rfl, rfl⟩; rw [h1]) | (go_at_call 46; refine HT.out.mono ?_; rintro e w' ⟨rfl, rfl⟩; rw [h2]))
          go_ret
          exact ⟨by rw [HR.out]; rfl, rfl⟩
        | false =>
          have HN' := hd (ndU_take hlt HN.out h2)
          go_wp2_with (first | (go_at_call 30; refine (in_any _ _ _ _).mono ?_; rintro e w' ⟨rfl, rfl⟩; rw [h1]) | (go_at_call 46; refine HT.out.mono ?_; rintro e w' ⟨rfl, rfl⟩; rw [h2]))
          go_round
          case rel => exact ⟨k + 1, by omega, by go_num, HN', HV'⟩
          case measure => simp [intOf]; omega
    · obtain rfl : k = xs.length := by omega
      have HR := hd (show difB xs = true by simp only [difB, HV.out, allL_done, ndB_yes HN.out, Bool.and_true])
      go_wp2
      go_ret
      exact ⟨by rw [HR.out]; rfl, rfl⟩
theorem VCa_no1 {r : Int} {xs : List Int} (h : inB r 0 6 = false) : VCa r xs = false := by simp only [VCa, h, Bool.false_and]
theorem VCa_no2 {r : Int} {xs : List Int} (h : ¬ (xs.length : Int) ≤ r) : VCa r xs = false := by simp only [VCa, decide_eq_false h, Bool.false_and, Bool.and_false]
theorem VCa_eq {r : Int} {xs : List Int} (h : inB r 0 6 = true) (h2 : (xs.length : Int) ≤ r) : VCa r xs = difB xs := by simp only [VCa, h, decide_eq_true h2, Bool.true_and]
set_option maxHeartbeats 1000000 in
theorem vca_any (r : Int) (A : Option Addr) (c : Nat) (xs : List Int) (w : World) (h : SlI w A c xs) :
    Calls Try.prog 11 #[.agg #[.int .i64 r, .slice A xs.length c]] w fun e w' => e = .returned (.bool (VCa r xs)) ∧ Below w.heap.size w w' := by
  have hmax := h.max
  have hcap := h.cap
  unfold maxLen at hmax
  have hb0 : Below w.heap.size w (w.alloc (.cells #[.int .i64 r, .slice A xs.length c] 27)) := ext_alloc (Below.refl _ _) _
  have HB := hd hb0
  have s := h.ext hb0
  clear hb0 h
  cases h1 : inB r 0 6 with
  | false =>
    have HR := hd (VCa_no1 (xs := xs) h1)
    go_enter Try.func11, Try.ntmps11
    go_wp2_with (go_at_call 30; refine (in_any _ _ _ _).mono ?_; rintro e w' ⟨rfl, rfl⟩; rw [h1])
    go_ret
    exact ⟨by rw [HR.out]; rfl, HB.out⟩
  | true =>
    by_cases h2 : (xs.length : Int) ≤ r
    · have g2 : decide ((xs.length : Int) ≤ r) = true := decide_eq_true h2
      have HR := hd (VCa_eq h1 h2)
      clear h2
      go_enter Try.func11, Try.ntmps11
      go_wp2_with (first | (go_at_call 30; refine (in_any _ _ _ _).mono ?_; rintro e w' ⟨rfl, rfl⟩; rw [h1]) | (go_at_call 31; refine (diff_any _ _ _ _ s).mono ?_; rintro e w' ⟨rfl, rfl⟩))
      go_ret
      exact ⟨by rw [HR.out]; rfl, HB.out⟩
    · have g2 : decide ((xs.length : Int) ≤ r) = false := decide_eq_false h2
      have HR := hd (VCa_no2 h2)
      clear h2
      go_enter Try.func11, Try.ntmps11
      go_wp2_with (go_at_call 30; refine (in_any _ _ _ _).mono ?_; rintro e w' ⟨rfl, rfl⟩; rw [h1])
      go_ret
      exact ⟨by rw [HR.out]; rfl, HB.out⟩
end Go.Proofs.Ytjhhacmfhancpaa
