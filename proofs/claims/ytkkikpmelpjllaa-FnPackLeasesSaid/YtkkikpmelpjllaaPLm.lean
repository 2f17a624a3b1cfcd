/- Packed leases in plain Lean: they are valid and need no more connections. -/
import Derived.Test.YtkkikpmelpjllaaPLe
namespace Go.Proofs.Ytkkikpmelpjllaa
/-- A lease has a time. -/
def cvB (s : Int × Int × Int) (t : Int) : Bool := decide (s.2.1 ≤ t) && decide (t < s.2.2)
theorem ok_conn {x : Int × Int × Int × Int} (h : okL x = true) : 0 ≤ x.1 ∧ x.1 ≤ 5 ∧ 0 ≤ x.2.1 ∧ x.2.2.1 < x.2.2.2 := by
  simp only [okL, Bool.and_eq_true, inB_iff] at h
  omega
theorem ok_new {x : Int × Int × Int × Int} (h : okL x = true) {y : Int × Int × Int × Int} (hy : y.2 = x.2) (h0 : 0 ≤ y.1) (h5 : y.1 ≤ 5) : okL y = true := by
  simp only [okL, Bool.and_eq_true, inB_iff] at h ⊢
  rw [hy]
  exact ⟨⟨h0, h5⟩, h.2⟩
theorem vl_ok {xs : List (Int × Int × Int × Int)} (h : VL xs = true) {x : Int × Int × Int × Int} (hx : x ∈ xs) : okL x = true := by
  obtain ⟨i, hi, rfl⟩ := List.getElem_of_mem hx
  exact ((VL_iff.1 h).1 i hi hi).1
theorem vl_pair {xs : List (Int × Int × Int × Int)} (h : VL xs = true) : xs.Pairwise fun y x => clB y x = false := by
  rw [List.pairwise_iff_getElem]
  intro i j hi hj hij
  have := ((VL_iff.1 h).1 j hj hj).2
  rw [List.any_eq_false] at this
  have h2 := this xs[i] (List.mem_take_iff_getElem.2 ⟨i, by omega, rfl⟩)
  simpa using h2
theorem own_ex {xs : List (Int × Int × Int × Int)} (h : ∀ x ∈ xs, 0 ≤ x.2.1) (c t : Int) : 0 ≤ ownL xs c t ↔ ∃ x ∈ xs, x.1 = c ∧ x.2.2.1 ≤ t ∧ t < x.2.2.2 := by
  induction xs with
  | nil => simp [ownL]
  | cons x r ih =>
    have ih := ih (fun y hy => h y (by simp [hy]))
    unfold ownL
    by_cases hx : x.1 = c ∧ x.2.2.1 ≤ t ∧ t < x.2.2.2
    · rw [if_pos hx]
      exact ⟨fun _ => ⟨x, by simp, hx⟩, fun _ => h x (by simp)⟩
    · rw [if_neg hx, ih]
      constructor
      · rintro ⟨y, hy, h2⟩; exact ⟨y, by simp [hy], h2⟩
      · rintro ⟨y, hy, h2⟩
        rcases List.mem_cons.1 hy with rfl | hy
        · exact absurd h2 hx
        · exact ⟨y, hy, h2⟩
theorem bus_mem {xs : List (Int × Int × Int × Int)} {t a : Int} {k : Nat} : a ∈ busL xs t k ↔ ∃ c : Nat, c < k ∧ 0 ≤ ownL xs c t ∧ a = (c : Int) := by
  unfold busL
  rw [List.mem_map]
  constructor
  · rintro ⟨c, hc, rfl⟩
    rw [List.mem_filter, List.mem_range, decide_eq_true_iff] at hc
    exact ⟨c, hc.1, hc.2, rfl⟩
  · rintro ⟨c, h1, h2, rfl⟩
    exact ⟨c, by rw [List.mem_filter, List.mem_range, decide_eq_true_iff]; exact ⟨h1, h2⟩, rfl⟩
theorem cv_iff {s : Int × Int × Int} {t : Int} : cvB s t = true ↔ s.2.1 ≤ t ∧ t < s.2.2 := by simp [cvB]
/-- How many connections are leased: as many as there are leases that have the time. -/
theorem bus_cover {xs : List (Int × Int × Int × Int)} (h : VL xs = true) (t : Int) : (busL xs t 6).length = xs.countP fun x => cvB x.2 t := by
  have how : ∀ x ∈ xs, 0 ≤ x.2.1 := fun x hx => (ok_conn (vl_ok h hx)).2.2.1
  have e0 : (xs.countP fun x => cvB x.2 t) = ((xs.filter fun x => cvB x.2 t).map fun x => x.1).length := by rw [List.length_map, List.countP_eq_length_filter]
  rw [e0]
  apply Nat.le_antisymm
  · refine nodup_sub ?_ fun a ha => ?_
    · unfold busL
      exact List.Pairwise.map _ (fun a b hab => by omega) (List.Pairwise.filter _ List.nodup_range)
    · obtain ⟨c, hc, h0, rfl⟩ := bus_mem.1 ha
      obtain ⟨x, hx, h1, h2⟩ := (own_ex how c t).1 h0
      exact List.mem_map.2 ⟨x, List.mem_filter.2 ⟨hx, cv_iff.2 h2⟩, h1⟩
  · refine nodup_sub ?_ fun a ha => ?_
    · unfold List.Nodup
      rw [List.pairwise_map, List.pairwise_filter]
      refine (vl_pair h).imp fun {y x} hc hy hx e => ?_
      rw [cv_iff] at hx hy
      have : clB y x = true := by
        simp only [clB, meB, Bool.and_eq_true, beq_iff_eq, decide_eq_true_iff]
        exact ⟨e, by omega, by omega⟩
      rw [this] at hc
      cases hc
    · obtain ⟨x, hx, rfl⟩ := List.mem_map.1 ha
      obtain ⟨hx, hc⟩ := List.mem_filter.1 hx
      have ho := ok_conn (vl_ok h hx)
      refine bus_mem.2 ⟨x.1.toNat, by omega, ?_, by omega⟩
      rw [own_ex how]
      exact ⟨x, hx, by omega, cv_iff.1 hc⟩
theorem map_gt (xs : List (Int × Int × Int × Int)) : (List.range xs.length).map (gt xs) = xs := by
  refine List.ext_getElem (by simp) fun i h1 h2 => ?_
  rw [List.getElem_map, List.getElem_range, gt_at h2]
theorem cover_os {xs : List (Int × Int × Int × Int)} {os : List Nat} (h : Ord xs os) (t : Int) : (os.countP fun p => cvB (gt xs p).2 t) = xs.countP fun x => cvB x.2 t := by
  rw [h.1.countP_eq]
  conv => rhs; rw [← map_gt xs]
  rw [List.countP_map]
  rfl
theorem me_rest {a b : Int × Int × Int × Int} (h : a.2 = b.2) (f u : Int) : meB a f u = meB b f u := by unfold meB; rw [h]
/-- What a lease gets lies below the most leased. -/
theorem lfr_lt {xs : List (Int × Int × Int × Int)} {os : List Nat} (hv : VL xs = true) (h : Ord xs os) {k : Nat} (hk : k < os.length) :
    lfr (pk xs os k) (os.take k) (gt xs os[k]).2.2.1 (gt xs os[k]).2.2.2 < ML xs := by
  have hi := h.lt' hk
  have h1 := lfr_le (pk xs os k) (os.take k) (gt xs os[k]).2.2.1 (gt xs os[k]).2.2.2
  have hok := ok_conn (vl_ok hv (List.getElem_mem hi))
  rw [← gt_at hi] at hok
  have h2 : (os.take k).countP (fun p => meB (gt (pk xs os k) p) (gt xs os[k]).2.2.1 (gt xs os[k]).2.2.2) ≤ (os.take k).countP fun p => cvB (gt xs p).2 (gt xs os[k]).2.2.1 := by
    refine List.countP_mono_left fun p hp hm => ?_
    rw [me_rest (pk_rest h k (by omega) p)] at hm
    simp only [meB, Bool.and_eq_true, decide_eq_true_iff] at hm
    obtain ⟨j, hj, rfl⟩ := List.mem_take_iff_getElem.1 hp
    have := (List.pairwise_iff_getElem.1 h.2) j k (by omega) hk (by omega)
    refine cv_iff.2 ⟨?_, hm.2⟩
    rcases this with h' | h' <;> omega
  have h3 : (os.take (k + 1)).countP (fun p => cvB (gt xs p).2 (gt xs os[k]).2.2.1) = (os.take k).countP (fun p => cvB (gt xs p).2 (gt xs os[k]).2.2.1) + 1 := by
    rw [List.take_succ_eq_append_getElem hk, List.countP_append, List.countP_singleton, if_pos (cv_iff.2 ⟨Int.le_refl _, hok.2.2.2⟩)]
  have h4 := (List.take_sublist (k + 1) os).countP_le (p := fun p => cvB (gt xs p).2 (gt xs os[k]).2.2.1)
  have h5 := cover_os h (gt xs os[k]).2.2.1
  have h6 := bus_cover hv (gt xs os[k]).2.2.1
  have h7 := mlU_ge os[k] hi xs.length hi (Nat.le_refl _)
  rw [← gt_at hi] at h7
  unfold ML
  omega
/-- The packed leases. -/
noncomputable def PK (xs : List (Int × Int × Int × Int)) (os : List Nat) : List (Int × Int × Int × Int) := pk xs os xs.length
theorem PK_len (xs : List (Int × Int × Int × Int)) (os : List Nat) : (PK xs os).length = xs.length := pk_len _ _ _
theorem PK_at {xs : List (Int × Int × Int × Int)} {os : List Nat} (h : Ord xs os) {k : Nat} (hk : k < os.length) :
    gt (PK xs os) os[k] = (((lfr (pk xs os k) (os.take k) (gt xs os[k]).2.2.1 (gt xs os[k]).2.2.2 : Nat) : Int), (gt xs os[k]).2) :=
  pk_keep h hk xs.length (by have := h.len; omega) (by have := h.len; omega)
theorem PK_any {xs : List (Int × Int × Int × Int)} {os : List Nat} (hv : VL xs = true) (h : Ord xs os) {i : Nat} (hi : i < xs.length) :
    (gt (PK xs os) i).2 = (gt xs i).2 ∧ 0 ≤ (gt (PK xs os) i).1 ∧ (gt (PK xs os) i).1 < (ML xs : Int) := by
  obtain ⟨k, hk, rfl⟩ := List.getElem_of_mem (h.mem hi)
  rw [PK_at h hk]
  have := lfr_lt hv h hk
  exact ⟨rfl, by simp only []; omega, by simp only []; omega⟩
theorem cl_comm (y x : Int × Int × Int × Int) : clB y x = clB x y := by
  unfold clB meB
  rw [Bool.and_comm (decide (y.2.2.1 < x.2.2.2)), show (y.1 == x.1) = (x.1 == y.1) from Bool.eq_iff_iff.2 (by rw [beq_iff_eq, beq_iff_eq]; exact eq_comm)]
theorem PK_two {xs : List (Int × Int × Int × Int)} {os : List Nat} (h : Ord xs os) {a b : Nat} (ha : a < b) (hb : b < os.length) : clB (gt (PK xs os) os[a]) (gt (PK xs os) os[b]) = false := by
  cases hc : clB (gt (PK xs os) os[a]) (gt (PK xs os) os[b]) with
  | false => rfl
  | true =>
    have h1 := lfr_no (pk xs os b) (os.take b) (gt xs os[b]).2.2.1 (gt xs os[b]).2.2.2
    have h2 := pk_keep h (a := a) (by omega) b (by omega) (by omega)
    rw [← PK_at h (k := a) (by omega)] at h2
    have h3 : tkB (pk xs os b) (os.take b) (lfr (pk xs os b) (os.take b) (gt xs os[b]).2.2.1 (gt xs os[b]).2.2.2) (gt xs os[b]).2.2.1 (gt xs os[b]).2.2.2 = true := by
      refine tk_iff.2 ⟨os[a], List.mem_take_iff_getElem.2 ⟨a, by omega, rfl⟩, ?_⟩
      rw [h2]
      rw [PK_at h hb] at hc
      simpa only [clB, Bool.and_eq_true, beq_iff_eq] using hc
    rw [h1] at h3
    cases h3
theorem PK_valid {xs : List (Int × Int × Int × Int)} {os : List Nat} (hv : VL xs = true) (h : Ord xs os) : VL (PK xs os) = true := by
  have hml : ML xs ≤ 6 := mlU_le xs xs.length (Nat.le_refl _)
  refine VL_iff.2 ⟨fun i hi _ => ⟨?_, ?_⟩, by rw [PK_len]; exact vl_len hv⟩
  · have hi' : i < xs.length := by rw [PK_len] at hi; exact hi
    obtain ⟨h1, h2, h3⟩ := PK_any hv h hi'
    rw [gt_at hi] at h1 h2 h3
    rw [gt_at hi'] at h1
    exact ok_new (vl_ok hv (List.getElem_mem hi')) h1 h2 (by omega)
  · rw [List.any_eq_false]
    intro y hy
    obtain ⟨j, hj, rfl⟩ := List.mem_take_iff_getElem.1 hy
    have hi' : i < xs.length := by rw [PK_len] at hi; exact hi
    have hj' : j < xs.length := by omega
    obtain ⟨a, ha, ea⟩ := List.getElem_of_mem (h.mem hj')
    obtain ⟨b, hb, eb⟩ := List.getElem_of_mem (h.mem hi')
    have hne : a ≠ b := fun e => by subst e; omega
    rw [← gt_at (xs := PK xs os) hi, ← gt_at (xs := PK xs os) (p := j) (by omega), ← ea, ← eb]
    rcases Nat.lt_or_ge a b with hab | hab
    · rw [PK_two h hab hb]; decide
    · rw [cl_comm, PK_two h (by omega) ha]; decide
theorem PK_ml {xs : List (Int × Int × Int × Int)} {os : List Nat} (hv : VL xs = true) (h : Ord xs os) : ML (PK xs os) = ML xs := by
  have hc : ∀ t, ((PK xs os).countP fun x => cvB x.2 t) = xs.countP fun x => cvB x.2 t := fun t => by
    have e : (PK xs os).map (fun x => x.2) = xs.map fun x => x.2 := by
      refine List.ext_getElem (by simp [PK_len]) fun i h1 h2 => ?_
      rw [List.getElem_map, List.getElem_map]
      have hi : i < xs.length := by simpa using h2
      have := (PK_any hv h hi).1
      rwa [gt_at (by rw [PK_len]; exact hi), gt_at hi] at this
    have a1 := List.countP_map (p := fun s => cvB s t) (f := fun x : Int × Int × Int × Int => x.2) (l := PK xs os)
    have a2 := List.countP_map (p := fun s => cvB s t) (f := fun x : Int × Int × Int × Int => x.2) (l := xs)
    rw [e, a2] at a1
    exact a1.symm
  have hm : ∀ k, k ≤ xs.length → mlU (PK xs os) k = mlU xs k := by
    intro k
    induction k with
    | zero => intro _; simp [mlU]
    | succ k ih =>
      intro hk
      have hi : k < xs.length := by omega
      have hi' : k < (PK xs os).length := by rw [PK_len]; exact hi
      have := (PK_any hv h hi).1
      rw [gt_at hi', gt_at hi] at this
      rw [mlU_step hi', mlU_step hi, ih (by omega), bus_cover (PK_valid hv h), bus_cover hv, hc, this]
  unfold ML
  rw [PK_len]
  exact hm _ (Nat.le_refl _)
end Go.Proofs.Ytkkikpmelpjllaa
