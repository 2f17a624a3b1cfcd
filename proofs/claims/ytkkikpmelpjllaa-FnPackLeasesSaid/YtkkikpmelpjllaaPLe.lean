/- Leases in plain Lean: no program in sight. -/
import Derived.Test.YtkkikpmelpjllaaW1
namespace Go.Proofs.Ytkkikpmelpjllaa
/-- A lease meets a time. -/
def meB (y : Int × Int × Int × Int) (f u : Int) : Bool := decide (y.2.2.1 < u) && decide (f < y.2.2.2)
/-- Two leases of one connection have a time in common. -/
def clB (y x : Int × Int × Int × Int) : Bool := (y.1 == x.1) && meB y x.2.2.1 x.2.2.2
def okL (x : Int × Int × Int × Int) : Bool := inB x.1 0 5 && (inB x.2.1 0 4 && (inB x.2.2.1 0 999 && inB x.2.2.2 (x.2.2.1 + 1) 1000))
/-- The first k leases are valid. -/
def VlU (xs : List (Int × Int × Int × Int)) (k : Nat) : Prop := ∀ i, (h : i < xs.length) → i < k → okL xs[i] = true ∧ (xs.take i).any (fun y => clB y xs[i]) = false
noncomputable def VL (xs : List (Int × Int × Int × Int)) : Bool := @decide (VlU xs xs.length ∧ xs.length ≤ 12) (Classical.propDecidable _)
theorem VL_iff {xs : List (Int × Int × Int × Int)} : VL xs = true ↔ VlU xs xs.length ∧ xs.length ≤ 12 := by unfold VL; exact @decide_eq_true_iff _ (Classical.propDecidable _)
theorem VL_no {xs : List (Int × Int × Int × Int)} (h : ¬ (VlU xs xs.length ∧ xs.length ≤ 12)) : VL xs = false := by
  cases e : VL xs with
  | false => rfl
  | true => exact absurd (VL_iff.1 e) h
theorem vl_step {xs : List (Int × Int × Int × Int)} {k : Nat} (h : k < xs.length) (hv : VlU xs k) (h1 : okL xs[k] = true) (h2 : (xs.take k).any (fun y => clB y xs[k]) = false) : VlU xs (k + 1) := fun i hi hk => by
  rcases Nat.lt_or_ge i k with h' | h'
  · exact hv i hi h'
  · obtain rfl : i = k := by omega
    exact ⟨h1, h2⟩
theorem vl_bad1 {xs : List (Int × Int × Int × Int)} {k : Nat} (h : k < xs.length) (h1 : okL xs[k] = false) : VL xs = false := VL_no fun hv => by rw [(hv.1 k h h).1] at h1; cases h1
theorem vl_bad2 {xs : List (Int × Int × Int × Int)} {k : Nat} (h : k < xs.length) (h1 : (xs.take k).any (fun y => clB y xs[k]) = true) : VL xs = false := VL_no fun hv => by rw [(hv.1 k h h).2] at h1; cases h1
theorem vl_end {xs : List (Int × Int × Int × Int)} (hv : VlU xs xs.length) : VL xs = decide (xs.length ≤ 12) := by
  by_cases h : xs.length ≤ 12
  · rw [decide_eq_true h]; exact VL_iff.2 ⟨hv, h⟩
  · rw [decide_eq_false h]; exact VL_no fun h' => h h'.2
theorem vl_len {xs : List (Int × Int × Int × Int)} (h : VL xs = true) : xs.length ≤ 12 := (VL_iff.1 h).2
theorem any_done {xs : List (Int × Int × Int × Int)} (p : Int × Int × Int × Int → Bool) : (xs.drop xs.length).any p = false := by simp
theorem any_yes {xs : List (Int × Int × Int × Int)} {p : Int × Int × Int × Int → Bool} {k : Nat} (h : k < xs.length) (h1 : p xs[k] = true) : (xs.drop k).any p = true := by
  rw [List.drop_eq_getElem_cons h, List.any_cons, h1]; rfl
theorem any_no {xs : List (Int × Int × Int × Int)} {p : Int × Int × Int × Int → Bool} {k : Nat} (h : k < xs.length) (h1 : p xs[k] = false) : (xs.drop k).any p = (xs.drop (k + 1)).any p := by
  rw [List.drop_eq_getElem_cons h, List.any_cons, h1]; rfl
/-- The owner of a connection at a time. -/
def ownL (xs : List (Int × Int × Int × Int)) (c t : Int) : Int :=
  match xs with
  | [] => -1
  | x :: r => if x.1 = c ∧ x.2.2.1 ≤ t ∧ t < x.2.2.2 then x.2.1 else ownL r c t
theorem own_yes {xs : List (Int × Int × Int × Int)} {c t : Int} {k : Nat} (h : k < xs.length) (h1 : xs[k].1 = c ∧ xs[k].2.2.1 ≤ t ∧ t < xs[k].2.2.2) : ownL (xs.drop k) c t = xs[k].2.1 := by
  rw [List.drop_eq_getElem_cons h]; exact if_pos h1
theorem own_no {xs : List (Int × Int × Int × Int)} {c t : Int} {k : Nat} (h : k < xs.length) (h1 : ¬ (xs[k].1 = c ∧ xs[k].2.2.1 ≤ t ∧ t < xs[k].2.2.2)) : ownL (xs.drop k) c t = ownL (xs.drop (k + 1)) c t := by
  rw [List.drop_eq_getElem_cons h]; exact if_neg h1
theorem own_done (xs : List (Int × Int × Int × Int)) (c t : Int) : ownL (xs.drop xs.length) c t = -1 := by simp [ownL]
/-- The connections below a number that are leased at a time. -/
def busL (xs : List (Int × Int × Int × Int)) (t : Int) (k : Nat) : List Int := ((List.range k).filter fun (c : Nat) => decide (0 ≤ ownL xs c t)).map fun (c : Nat) => (c : Int)
theorem bus_yes {xs : List (Int × Int × Int × Int)} {t : Int} {k : Nat} (h : 0 ≤ ownL xs k t) : busL xs t (k + 1) = busL xs t k ++ [(k : Int)] := by
  unfold busL
  rw [List.range_succ, List.filter_append, List.map_append]
  simp [h]
theorem bus_no {xs : List (Int × Int × Int × Int)} {t : Int} {k : Nat} (h : ¬ 0 ≤ ownL xs k t) : busL xs t (k + 1) = busL xs t k := by
  unfold busL
  rw [List.range_succ, List.filter_append, List.map_append]
  simp [h]
theorem bus_len (xs : List (Int × Int × Int × Int)) (t : Int) (k : Nat) : (busL xs t k).length ≤ k := by
  unfold busL
  rw [List.length_map]
  exact Nat.le_trans (List.length_filter_le _ _) (by simp)
/-- The most leases with a time in common, of the first k leases. -/
def mlU (xs : List (Int × Int × Int × Int)) (k : Nat) : Nat := (xs.take k).foldl (fun m x => max m (busL xs x.2.2.1 6).length) 0
theorem mlU_step {xs : List (Int × Int × Int × Int)} {k : Nat} (h : k < xs.length) : mlU xs (k + 1) = max (mlU xs k) (busL xs xs[k].2.2.1 6).length := by
  unfold mlU
  rw [List.take_succ_eq_append_getElem h, List.foldl_append]
  rfl
theorem mlU_le (xs : List (Int × Int × Int × Int)) (k : Nat) (h : k ≤ xs.length) : mlU xs k ≤ 6 := by
  induction k with
  | zero => simp [mlU]
  | succ k ih =>
    rw [mlU_step (by omega)]
    have := ih (by omega)
    have := bus_len xs (xs[k]'(by omega)).2.2.1 6
    omega
theorem mlU_ge {xs : List (Int × Int × Int × Int)} (i : Nat) (hi : i < xs.length) (k : Nat) (h : i < k) (hk : k ≤ xs.length) : (busL xs xs[i].2.2.1 6).length ≤ mlU xs k := by
  induction k with
  | zero => omega
  | succ k ih =>
    rw [mlU_step (by omega)]
    rcases Nat.lt_or_ge i k with h' | h'
    · have := ih h' (by omega)
      omega
    · obtain rfl : i = k := by omega
      omega
/-- MostLeased of valid leases. -/
def ML (xs : List (Int × Int × Int × Int)) : Nat := mlU xs xs.length
/-- A lease's place, default for none. -/
def gt (xs : List (Int × Int × Int × Int)) (p : Nat) : Int × Int × Int × Int := (xs[p]?).getD (0, 0, 0, 0)
theorem gt_at {xs : List (Int × Int × Int × Int)} {p : Nat} (h : p < xs.length) : gt xs p = xs[p] := by unfold gt; rw [List.getElem?_eq_getElem h]; rfl
/-- A connection is taken by one of the places at a time. -/
def tkB (out : List (Int × Int × Int × Int)) (ps : List Nat) (c f u : Int) : Bool := ps.any fun p => ((gt out p).1 == c) && meB (gt out p) f u
theorem tk_iff {out : List (Int × Int × Int × Int)} {ps : List Nat} {c f u : Int} : tkB out ps c f u = true ↔ ∃ p ∈ ps, (gt out p).1 = c ∧ meB (gt out p) f u = true := by
  unfold tkB
  rw [List.any_eq_true]
  constructor
  · rintro ⟨p, h1, h2⟩
    rw [Bool.and_eq_true, beq_iff_eq] at h2
    exact ⟨p, h1, h2⟩
  · rintro ⟨p, h1, h2⟩
    exact ⟨p, h1, by rw [Bool.and_eq_true, beq_iff_eq]; exact h2⟩
theorem nodup_sub {α : Type} [DecidableEq α] {l m : List α} (h : l.Nodup) (hs : ∀ a ∈ l, a ∈ m) : l.length ≤ m.length := by
  induction l generalizing m with
  | nil => simp
  | cons a r ih =>
    obtain ⟨h1, h2⟩ := List.nodup_cons.1 h
    have ha : a ∈ m := hs a (by simp)
    have := ih (m := m.erase a) h2 (fun b hb => (List.mem_erase_of_ne (fun e => h1 (by rw [← e]; exact hb))).2 (hs b (by simp [hb])))
    rw [List.length_erase_of_mem ha] at this
    have := List.length_pos_of_mem ha
    simp only [List.length_cons]
    omega
/-- If all connections below n are taken, n places meet the time. -/
theorem tk_all {out : List (Int × Int × Int × Int)} {ps : List Nat} {f u : Int} {n : Nat} (h : ∀ c : Nat, c < n → tkB out ps c f u = true) : n ≤ ps.countP fun p => meB (gt out p) f u := by
  have h2 := nodup_sub (l := (List.range n).map fun (c : Nat) => (c : Int)) (m := (ps.filter fun p => meB (gt out p) f u).map fun p => (gt out p).1)
    (List.Pairwise.map _ (fun a b hab => by omega) List.nodup_range)
    (fun a ha => by
      obtain ⟨c, hc, rfl⟩ := List.mem_map.1 ha
      obtain ⟨p, hp, e, hm⟩ := tk_iff.1 (h c (List.mem_range.1 hc))
      exact List.mem_map.2 ⟨p, List.mem_filter.2 ⟨hp, hm⟩, e⟩)
  rw [List.length_map, List.length_map, List.length_range] at h2
  rw [List.countP_eq_length_filter]
  exact h2
theorem lf_ex (out : List (Int × Int × Int × Int)) (ps : List Nat) (f u : Int) : ∃ n : Nat, tkB out ps n f u = false ∧ ∀ c : Nat, c < n → tkB out ps c f u = true := by
  refine Classical.byContradiction fun hno => ?_
  have : ∀ n c : Nat, c < n → tkB out ps c f u = true := by
    intro n
    induction n with
    | zero => intro c hc; omega
    | succ n ih =>
      intro c hc
      rcases Nat.lt_or_ge c n with h | h
      · exact ih c h
      · obtain rfl : c = n := by omega
        cases e : tkB out ps c f u with
        | true => rfl
        | false => exact absurd ⟨c, e, ih⟩ hno
  have h2 := tk_all (this (ps.length + 1))
  have := List.countP_le_length (p := fun p => meB (gt out p) f u) (l := ps)
  omega
/-- The least connection that is not taken. -/
noncomputable def lfr (out : List (Int × Int × Int × Int)) (ps : List Nat) (f u : Int) : Nat := Classical.choose (lf_ex out ps f u)
theorem lfr_no (out : List (Int × Int × Int × Int)) (ps : List Nat) (f u : Int) : tkB out ps (lfr out ps f u) f u = false := (Classical.choose_spec (lf_ex out ps f u)).1
theorem lfr_yes {out : List (Int × Int × Int × Int)} {ps : List Nat} {f u : Int} {c : Nat} (h : c < lfr out ps f u) : tkB out ps c f u = true := (Classical.choose_spec (lf_ex out ps f u)).2 c h
theorem lfr_le (out : List (Int × Int × Int × Int)) (ps : List Nat) (f u : Int) : lfr out ps f u ≤ ps.countP fun p => meB (gt out p) f u := tk_all fun _ h => lfr_yes h
theorem lfr_len (out : List (Int × Int × Int × Int)) (ps : List Nat) (f u : Int) : lfr out ps f u ≤ ps.length := Nat.le_trans (lfr_le out ps f u) List.countP_le_length
theorem lfr_more {out : List (Int × Int × Int × Int)} {ps : List Nat} {f u : Int} {c : Nat} (hc : c ≤ lfr out ps f u) (h : tkB out ps c f u = true) : c + 1 ≤ lfr out ps f u := by
  rcases Nat.lt_or_ge c (lfr out ps f u) with h' | h'
  · exact h'
  · obtain rfl : c = lfr out ps f u := by omega
    rw [lfr_no] at h; cases h
theorem lfr_end {out : List (Int × Int × Int × Int)} {ps : List Nat} {f u : Int} {c : Nat} (hc : c ≤ lfr out ps f u) (h : tkB out ps c f u = false) : c = lfr out ps f u := by
  rcases Nat.lt_or_ge c (lfr out ps f u) with h' | h'
  · rw [lfr_yes h'] at h; cases h
  · omega
/-- The leases after the first k places of an order have got their connections. -/
noncomputable def pk (xs : List (Int × Int × Int × Int)) (os : List Nat) : Nat → List (Int × Int × Int × Int)
  | 0 => xs
  | k + 1 => (pk xs os k).set (os.getD k 0) (((lfr (pk xs os k) (os.take k) (gt xs (os.getD k 0)).2.2.1 (gt xs (os.getD k 0)).2.2.2 : Nat) : Int), (gt xs (os.getD k 0)).2)
theorem pk_len (xs : List (Int × Int × Int × Int)) (os : List Nat) (k : Nat) : (pk xs os k).length = xs.length := by
  induction k with
  | zero => rfl
  | succ k ih => simp only [pk, List.length_set, ih]
/-- One place stands before another: earlier, or as early and further ahead. -/
def bef (xs : List (Int × Int × Int × Int)) (a b : Nat) : Prop := (gt xs a).2.2.1 < (gt xs b).2.2.1 ∨ ((gt xs a).2.2.1 = (gt xs b).2.2.1 ∧ a < b)
/-- The places in their order. -/
def Ord (xs : List (Int × Int × Int × Int)) (os : List Nat) : Prop := os.Perm (List.range xs.length) ∧ os.Pairwise (bef xs)
theorem Ord.len {xs : List (Int × Int × Int × Int)} {os : List Nat} (h : Ord xs os) : os.length = xs.length := by rw [h.1.length_eq, List.length_range]
theorem Ord.lt {xs : List (Int × Int × Int × Int)} {os : List Nat} (h : Ord xs os) {p : Nat} (hp : p ∈ os) : p < xs.length := List.mem_range.1 (h.1.mem_iff.1 hp)
theorem Ord.nd {xs : List (Int × Int × Int × Int)} {os : List Nat} (h : Ord xs os) : os.Nodup := h.1.nodup_iff.2 List.nodup_range
theorem Ord.mem {xs : List (Int × Int × Int × Int)} {os : List Nat} (h : Ord xs os) {p : Nat} (hp : p < xs.length) : p ∈ os := h.1.mem_iff.2 (List.mem_range.2 hp)
theorem Ord.lt' {xs : List (Int × Int × Int × Int)} {os : List Nat} (h : Ord xs os) {k : Nat} (hk : k < os.length) : os[k] < xs.length := h.lt (List.getElem_mem hk)
theorem getD_at {os : List Nat} {k : Nat} (h : k < os.length) : os.getD k 0 = os[k] := by simp [List.getD, h]
theorem pk_step {xs : List (Int × Int × Int × Int)} {os : List Nat} {k i : Nat} (h : k < os.length) (hi : os[k] = i) :
    pk xs os (k + 1) = (pk xs os k).set i (((lfr (pk xs os k) (os.take k) (gt xs i).2.2.1 (gt xs i).2.2.2 : Nat) : Int), (gt xs i).2) := by
  simp only [pk, getD_at h, hi]
theorem gt_set {xs : List (Int × Int × Int × Int)} {i p : Nat} {v : Int × Int × Int × Int} (h : i < xs.length) : gt (xs.set i v) p = if p = i then v else gt xs p := by
  unfold gt
  rw [List.getElem?_set]
  by_cases hp : i = p
  · subst hp; simp [h]
  · rw [if_neg hp, if_neg (fun e => hp e.symm)]
theorem pk_rest {xs : List (Int × Int × Int × Int)} {os : List Nat} (h : Ord xs os) (k : Nat) (hk : k ≤ os.length) (p : Nat) : (gt (pk xs os k) p).2 = (gt xs p).2 := by
  induction k with
  | zero => rfl
  | succ k ih =>
    rw [pk_step (by omega) rfl, gt_set (by rw [pk_len]; exact h.lt' (by omega))]
    split
    · rename_i e; subst e; rfl
    · exact ih (by omega)
/-- What a place got stays. -/
theorem pk_keep {xs : List (Int × Int × Int × Int)} {os : List Nat} (h : Ord xs os) {a : Nat} (ha : a < os.length) (k : Nat) (hk : a + 1 ≤ k) (hk2 : k ≤ os.length) :
    gt (pk xs os k) os[a] = (((lfr (pk xs os a) (os.take a) (gt xs os[a]).2.2.1 (gt xs os[a]).2.2.2 : Nat) : Int), (gt xs os[a]).2) := by
  induction k with
  | zero => omega
  | succ k ih =>
    rw [pk_step (by omega) rfl, gt_set (by rw [pk_len]; exact h.lt' (by omega))]
    rcases Nat.lt_or_ge a k with h' | h'
    · rw [if_neg (fun e => by
        have := (List.getElem_inj h.nd).1 e
        omega)]
      exact ih (by omega) (by omega)
    · obtain rfl : k = a := by omega
      rw [if_pos rfl]
end Go.Proofs.Ytkkikpmelpjllaa
