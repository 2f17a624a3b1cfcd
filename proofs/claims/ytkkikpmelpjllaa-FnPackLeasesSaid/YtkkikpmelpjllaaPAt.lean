/- The next place in plain Lean: the scan for the earliest one that is not done. -/
import Derived.Test.YtkkikpmelpjllaaPSo
namespace Go.Proofs.Ytkkikpmelpjllaa
def AtU (xs : L4) (ps : List Nat) (i : Nat) (a : Int) : Prop :=
  (a = -1 ∧ ∀ p, p < i → p ∈ ps) ∨ ∃ b : Nat, a = (b : Int) ∧ b < i ∧ b ∉ ps ∧ ∀ p, p < i → p ∉ ps → (gt xs b).2.2.1 < (gt xs p).2.2.1 ∨ ((gt xs b).2.2.1 = (gt xs p).2.2.1 ∧ b ≤ p)
section
variable {xs : L4} {ps os : List Nat} {i b k : Nat} {a : Int}
theorem at_start (xs : L4) (ps : List Nat) : AtU xs ps 0 (-1) := .inl ⟨rfl, fun p h => absurd h (by omega)⟩
theorem at_lt (h : AtU xs ps i a) : -1 ≤ a ∧ a < (i : Int) ∧ (a < 0 → a = -1) := by
  rcases h with ⟨rfl, _⟩ | ⟨b, rfl, hb, _⟩ <;> omega
theorem at_in (h : AtU xs ps i a) (hi : i ∈ ps) : AtU xs ps (i + 1) a := by
  rcases h with ⟨rfl, h⟩ | ⟨b, rfl, hb, hn, h⟩
  · refine .inl ⟨rfl, fun p hp => ?_⟩
    rcases Nat.lt_or_ge p i with h' | h'
    · exact h p h'
    · obtain rfl : p = i := by omega
      exact hi
  · refine .inr ⟨b, rfl, by omega, hn, fun p hp hpn => ?_⟩
    rcases Nat.lt_or_ge p i with h' | h'
    · exact h p h' hpn
    · obtain rfl : p = i := by omega
      exact absurd hi hpn
theorem at_first (h : AtU xs ps i a) (hi : i ∉ ps) (ha : a < 0) : AtU xs ps (i + 1) (i : Int) := by
  rcases h with ⟨rfl, h⟩ | ⟨b, rfl, hb, hn, h⟩
  · refine .inr ⟨i, rfl, by omega, hi, fun p hp hpn => ?_⟩
    rcases Nat.lt_or_ge p i with h' | h'
    · exact absurd (h p h') hpn
    · obtain rfl : p = i := by omega
      exact .inr ⟨rfl, Nat.le_refl _⟩
  · omega
theorem at_less (h : AtU xs ps i (b : Int)) (hi : i ∉ ps) (hl : (gt xs i).2.2.1 < (gt xs b).2.2.1) : AtU xs ps (i + 1) (i : Int) := by
  rcases h with ⟨e, h⟩ | ⟨b', e, hb, hn, h⟩
  · omega
  · obtain rfl : b = b' := by omega
    refine .inr ⟨i, rfl, by omega, hi, fun p hp hpn => ?_⟩
    rcases Nat.lt_or_ge p i with h' | h'
    · have := h p h' hpn; omega
    · obtain rfl : p = i := by omega
      exact .inr ⟨rfl, Nat.le_refl _⟩
theorem at_more (h : AtU xs ps i (b : Int)) (hl : ¬ (gt xs i).2.2.1 < (gt xs b).2.2.1) : AtU xs ps (i + 1) (b : Int) := by
  rcases h with ⟨e, h⟩ | ⟨b', e, hb, hn, h⟩
  · omega
  · obtain rfl : b = b' := by omega
    refine .inr ⟨b, rfl, by omega, hn, fun p hp hpn => ?_⟩
    rcases Nat.lt_or_ge p i with h' | h'
    · exact h p h' hpn
    · obtain rfl : p = i := by omega
      omega
theorem at_end (ho : Ord xs os) (hk : k < os.length) (h : AtU xs (os.take k) xs.length a) : a = (os[k] : Int) := by
  have hno : os[k] ∉ os.take k := fun hm => by
    obtain ⟨j, hj, e⟩ := List.mem_take_iff_getElem.1 hm
    have := (List.getElem_inj ho.nd).1 e
    omega
  have hlt := ho.lt' hk
  rcases h with ⟨rfl, h⟩ | ⟨b, rfl, hb, hn, h⟩
  · exact absurd (h _ hlt) hno
  · obtain ⟨j, hj, rfl⟩ := List.getElem_of_mem (ho.mem hb)
    have hjk : k ≤ j := by
      rcases Nat.lt_or_ge j k with h' | h'
      · exact absurd (List.mem_take_iff_getElem.2 ⟨j, by omega, rfl⟩) hn
      · exact h'
    rcases Nat.lt_or_ge k j with h' | h'
    · have h1 := (List.pairwise_iff_getElem.1 ho.2) k j hk hj h'
      have h2 := h _ hlt hno
      unfold bef at h1
      omega
    · obtain rfl : j = k := by omega
      rfl
end
end Go.Proofs.Ytkkikpmelpjllaa
