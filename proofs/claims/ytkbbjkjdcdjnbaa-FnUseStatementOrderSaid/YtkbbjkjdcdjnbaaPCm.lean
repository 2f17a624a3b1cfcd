/- More that the laws on caches lean on, in plain Lean. -/
import Derived.Test.YtkbbjkjdcdjnbaaPCl
namespace Go.Proofs.Ytkbbjkjdcdjnbaa
theorem US_length {r : Int} {xs : List Int} (v : Int) (h : 0 ≤ r) : (US r xs v).length = min ((lv xs v).length + 1) r.toNat := by
  unfold US
  rw [List.length_drop, List.length_append, List.length_singleton]
  omega
theorem US_more {r : Int} {xs : List Int} (v : Int) (h : 0 ≤ r) : (US (r + 1) xs v).length ≤ (US r xs v).length + 1 := by
  rw [US_length v (by omega), US_length v h]
  omega
theorem US_in {r : Int} {xs : List Int} {v : Int} (h : 0 ≤ r) {k : Nat} (hk : k < (US r xs v).length) : hasB (US (r + 1) xs v) (at0 (US r xs v) k) = true :=
  hasB_iff.2 ((Tl.US (al := xs) (bs := xs) ⟨0, rfl⟩ h v).mem (by rw [at0_of hk]; exact List.getElem_mem hk))
theorem US_end {r : Int} {xs : List Int} (v : Int) (h : 0 < r) : ∃ k, (US r xs v).length = k + 1 ∧ at0 (US r xs v) k = v := by
  obtain ⟨d, e, hl⟩ := US_pos (xs := xs) v h
  rw [e]
  refine ⟨((lv xs v).drop d).length, by simp, ?_⟩
  rw [at0_of (by simp)]
  simp
theorem VCa_more {r : Int} {xs : List Int} (h : VCa r xs = true) (h6 : r ≠ 6) : VCa (r + 1) xs = true := by
  have V := validC_iff.1 h
  exact validC_iff.2 ⟨by have := V.r0; omega, by have := V.r1; omega, by have := V.len; omega, V.rng, V.nd⟩
end Go.Proofs.Ytkbbjkjdcdjnbaa
