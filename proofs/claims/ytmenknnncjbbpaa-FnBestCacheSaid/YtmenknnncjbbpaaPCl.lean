/- What the laws on caches lean on, in plain Lean. -/
import Derived.Test.YtmenknnncjbbpaaPCa
namespace Go.Proofs.Ytmenknnncjbbpaa
theorem lv_idem (xs : List Int) (v : Int) : lv (lv xs v) v = lv xs v := lv_no (fun h => (mem_lv.1 h).2 rfl)
theorem lv_not (xs : List Int) (v : Int) : v ∉ lv xs v := fun h => (mem_lv.1 h).2 rfl
theorem hasB_lv (xs : List Int) (v : Int) : hasB (lv xs v) v = false := hasB_no.2 (lv_not xs v)
theorem US_lv (r : Int) (xs : List Int) (v : Int) : US r (lv xs v) v = US r xs v := by unfold US; rw [lv_idem]
theorem US_zero {xs : List Int} (v : Int) {r : Int} (h : r = 0) : US r xs v = [] := by
  subst h
  unfold US
  rw [List.drop_eq_nil_iff]
  simp
/-- With room, the name is at the end. -/
theorem US_pos {r : Int} {xs : List Int} (v : Int) (h : 0 < r) : ∃ d, US r xs v = (lv xs v).drop d ++ [v] ∧ ((lv xs v).drop d).length + 1 ≤ r := by
  refine ⟨(lv xs v).length + 1 - r.toNat, ?_, ?_⟩
  · unfold US
    rw [List.drop_append_of_le_length (by omega)]
  · rw [List.length_drop]; omega
theorem US_twice {r : Int} {xs : List Int} (v : Int) (h : 0 ≤ r) : US r (US r xs v) v = US r xs v := by
  by_cases h0 : r = 0
  · rw [US_zero v h0, US_zero v h0]
  · obtain ⟨d, e, hl⟩ := US_pos (xs := xs) v (show 0 < r by omega)
    rw [e]
    have hn : v ∉ (lv xs v).drop d := fun hm => lv_not xs v (List.mem_of_mem_drop hm)
    have e2 : lv ((lv xs v).drop d ++ [v]) v = (lv xs v).drop d := by
      rw [lv_app, lv_no hn]; simp [lv]
    unfold US
    rw [e2, show ((lv xs v).drop d).length + 1 - r.toNat = 0 by omega]
    rfl
theorem US_has {r : Int} {xs : List Int} (v : Int) (h : 0 ≤ r) : hasB (US r xs v) v = decide (0 < r) := by
  by_cases h0 : r = 0
  · rw [US_zero v h0, hasB_no.2 (by simp)]; exact (decide_eq_false (by omega)).symm
  · obtain ⟨d, e, hl⟩ := US_pos (xs := xs) v (show 0 < r by omega)
    rw [e, hasB_iff.2 (by simp)]; exact (decide_eq_true (by omega)).symm
theorem VCa_six {r : Int} {xs : List Int} (h : VCa r xs = true) : VCa 6 xs = true := by
  have V := validC_iff.1 h
  exact validC_iff.2 ⟨by omega, by omega, by have := V.len; have := V.r1; omega, V.rng, V.nd⟩
theorem VCa_nil {r : Int} {xs : List Int} (h : VCa r xs = true) : VCa r [] = true := by
  have V := validC_iff.1 h
  exact validC_iff.2 ⟨V.r0, V.r1, by simpa using V.r0, by simp [allL], by simp⟩
theorem VCa_US {r : Int} {xs : List Int} {v : Int} (h : VCa r xs = true) (hv : inB v 0 9 = true) : VCa r (US r xs v) = true := validC_iff.2 (US_valid (validC_iff.1 h) hv)
theorem VCa_lv {r : Int} {xs : List Int} (h : VCa r xs = true) (v : Int) : VCa r (lv xs v) = true := by
  have V := validC_iff.1 h
  refine validC_iff.2 ⟨V.r0, V.r1, by have := V.len; have := lv_len xs v; omega, ?_, lv_nodup V.nd v⟩
  have hr := V.rng
  unfold allL at hr ⊢
  rw [List.all_eq_true] at hr ⊢
  exact fun x hx => hr x (mem_lv.1 hx).1
theorem lv_length {xs : List Int} (hn : xs.Nodup) {v : Int} (hv : v ∈ xs) : (lv xs v).length + 1 = xs.length := by
  obtain ⟨i, hi, e⟩ := List.mem_iff_getElem.1 hv
  have := lv_erase hn hi
  rw [e] at this
  rw [← this, List.length_eraseIdx_of_lt hi]
  omega
theorem USE_some {r : Int} {xs : List Int} {v : Int} {zb : List Int × Bool} (h : USE r xs v = some zb) : VCa r xs = true ∧ inB v 0 9 = true ∧ zb = (US r xs v, hasB xs v) := by
  unfold USE at h
  split at h
  · rename_i h'; injection h with h; exact ⟨h'.1, h'.2, h.symm⟩
  · cases h
theorem DRP_some {r : Int} {xs : List Int} {v : Int} {zs : List Int} (h : DRP r xs v = some zs) : VCa r xs = true ∧ v ∈ xs ∧ zs = lv xs v := by
  unfold DRP at h
  split at h
  · rename_i h'; injection h with h; exact ⟨h'.1, hasB_iff.1 h'.2, h.symm⟩
  · cases h
theorem VCa_mem {r : Int} {xs : List Int} (h : VCa r xs = true) {v : Int} (hv : v ∈ xs) : inB v 0 9 = true := by
  have V := validC_iff.1 h
  have := allL_mem V.rng hv
  exact inB_true this.1 this.2
/-- What is left in order. -/
theorem US_order {r : Int} {xs : List Int} (v : Int) (h : 0 ≤ r) : ∃ d, d ≤ (lv xs v).length ∧ lv (US r xs v) v = (lv xs v).drop d := by
  by_cases h0 : r = 0
  · exact ⟨(lv xs v).length, Nat.le_refl _, by rw [US_zero v h0, List.drop_length]; rfl⟩
  · obtain ⟨d, e, hl⟩ := US_pos (xs := xs) v (show 0 < r by omega)
    have hn : v ∉ (lv xs v).drop d := fun hm => lv_not xs v (List.mem_of_mem_drop hm)
    refine ⟨min d (lv xs v).length, Nat.min_le_right _ _, ?_⟩
    rw [e, lv_app, lv_no hn]
    have : lv [v] v = [] := by simp [lv]
    rw [this, List.append_nil]
    by_cases hd : d ≤ (lv xs v).length
    · rw [Nat.min_eq_left hd]
    · rw [Nat.min_eq_right (by omega), List.drop_length, List.drop_eq_nil_iff.2 (by omega)]
theorem CP_nil {r : Int} {xs : List Int} (h : VCa r xs = true) : CP r xs [] = 0 := by rw [CP_ok h (by simp) (by simp [allL])]; rfl
theorem CPn_nonneg (r : Int) : ∀ (ns xs : List Int), 0 ≤ CPn r xs ns ∧ CPn r xs ns ≤ ns.length
  | [], _ => by simp [CPn]
  | n :: ns, xs => by
    have := CPn_nonneg r ns (US r xs n)
    simp only [CPn, List.length_cons]
    split <;> omega
theorem CP_valid {r : Int} {xs ns : List Int} (h : 0 ≤ CP r xs ns) : VCa r xs = true ∧ ns.length ≤ 16 ∧ allL ns 0 9 = true ∧ CP r xs ns = CPn r xs ns := by
  unfold CP at h ⊢
  split at h
  · rename_i h'; exact ⟨h'.1, h'.2.1, h'.2.2, by rw [if_pos h']⟩
  · omega
theorem CP_cons {r : Int} {xs ns : List Int} {n : Int} (h : 0 ≤ CP r xs (n :: ns)) : VCa r xs = true ∧ inB n 0 9 = true ∧ CP r xs (n :: ns) = (if hasB xs n = true then 0 else 1) + CP r (US r xs n) ns := by
  obtain ⟨h1, h2, h3, h4⟩ := CP_valid h
  have hn : inB n 0 9 = true := by simp [allL] at h3; exact h3.1
  have hns : allL ns 0 9 = true := by simp [allL] at h3 ⊢; exact h3.2
  refine ⟨h1, hn, ?_⟩
  rw [h4, CP_ok (VCa_US h1 hn) (by simp at h2; omega) hns]
  rfl
theorem CP_same {r : Int} {xs : List Int} (h : VCa r xs = true) (h0 : r ≠ 0) : CP r xs [4, 4, 4] = if hasB xs 4 = true then 0 else 1 := by
  have V := validC_iff.1 h
  have hr : 0 < r := by have := V.r0; omega
  have e1 : hasB (US r xs 4) 4 = true := by rw [US_has 4 (by omega)]; exact decide_eq_true hr
  have e2 : US r (US r xs 4) 4 = US r xs 4 := US_twice 4 (by omega)
  rw [CP_ok h (by decide) (by decide)]
  simp only [CPn, e2, e1, if_true]
  omega
/-- A shorter list that ends alike. -/
def Tl (al bs : List Int) : Prop := ∃ d, al = bs.drop d
theorem Tl.mem {al bs : List Int} (h : Tl al bs) {v : Int} (hv : v ∈ al) : v ∈ bs := by obtain ⟨d, rfl⟩ := h; exact List.mem_of_mem_drop hv
theorem Tl.lv {al bs : List Int} (h : Tl al bs) (v : Int) : Tl (lv al v) (lv bs v) := by
  obtain ⟨d, rfl⟩ := h
  refine ⟨(Go.Proofs.Ytmenknnncjbbpaa.lv (bs.take d) v).length, ?_⟩
  have e : Go.Proofs.Ytmenknnncjbbpaa.lv bs v = Go.Proofs.Ytmenknnncjbbpaa.lv (bs.take d) v ++ Go.Proofs.Ytmenknnncjbbpaa.lv (bs.drop d) v := by rw [← lv_app, List.take_append_drop]
  rw [e, List.drop_left' rfl]
theorem Tl.app {al bs : List Int} (h : Tl al bs) (v : Int) : Tl (al ++ [v]) (bs ++ [v]) := by
  obtain ⟨d, rfl⟩ := h
  by_cases hd : d ≤ bs.length
  · exact ⟨d, by rw [List.drop_append_of_le_length hd]⟩
  · refine ⟨bs.length, ?_⟩
    rw [List.drop_eq_nil_iff.2 (by omega), List.drop_append_of_le_length (Nat.le_refl _), List.drop_length]
theorem Tl.len {al bs : List Int} (h : Tl al bs) : al.length ≤ bs.length := by obtain ⟨d, rfl⟩ := h; rw [List.length_drop]; omega
theorem Tl.cut {al bs : List Int} (h : Tl al bs) {m n : Nat} (hmn : m ≤ n) : Tl (al.drop (al.length - m)) (bs.drop (bs.length - n)) := by
  obtain ⟨d, rfl⟩ := h
  refine ⟨d + ((bs.drop d).length - m) - (bs.length - n), ?_⟩
  rw [List.drop_drop, List.drop_drop]
  congr 1
  rw [List.length_drop]
  omega
theorem US_last (r : Int) (xs : List Int) (v : Int) : US r xs v = (lv xs v ++ [v]).drop ((lv xs v ++ [v]).length - r.toNat) := by unfold US; rw [List.length_append, List.length_singleton]
theorem Tl.US {al bs : List Int} (h : Tl al bs) {r : Int} (hr : 0 ≤ r) (v : Int) : Tl (US r al v) (US (r + 1) bs v) := by
  rw [US_last, US_last]
  exact ((h.lv v).app v).cut (by omega)
theorem CPn_room {r : Int} (hr : 0 ≤ r) : ∀ (ns al bs : List Int), Tl al bs → CPn (r + 1) bs ns ≤ CPn r al ns
  | [], _, _, _ => Int.le_refl _
  | n :: ns, al, bs, h => by
    have ih := CPn_room hr ns _ _ (h.US hr n)
    simp only [CPn]
    by_cases ha : hasB al n = true
    · have hb : hasB bs n = true := hasB_iff.2 (h.mem (hasB_iff.1 ha))
      rw [if_pos ha, if_pos hb]; omega
    · rw [if_neg ha]
      split <;> omega
theorem CP_room {r : Int} {xs ns : List Int} (h : 0 ≤ CP r xs ns) (h6 : r ≠ 6) : 0 ≤ CP (r + 1) xs ns ∧ CP (r + 1) xs ns ≤ CP r xs ns := by
  obtain ⟨h1, h2, h3, h4⟩ := CP_valid h
  have V := validC_iff.1 h1
  have V1 : VCa (r + 1) xs = true := validC_iff.2 ⟨by have := V.r0; omega, by have := V.r1; omega, by have := V.len; omega, V.rng, V.nd⟩
  rw [h4, CP_ok V1 h2 h3]
  exact ⟨(CPn_nonneg _ _ _).1, CPn_room V.r0 ns xs xs ⟨0, rfl⟩⟩
end Go.Proofs.Ytmenknnncjbbpaa
