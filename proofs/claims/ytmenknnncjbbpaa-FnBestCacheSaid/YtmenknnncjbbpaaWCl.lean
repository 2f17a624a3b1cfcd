/- Contracts of the laws' own functions over caches. -/
import Derived.Test.YtmenknnncjbbpaaWC6
import Derived.Test.YtmenknnncjbbpaaPCl
namespace Go.Proofs.Ytmenknnncjbbpaa
open Go.RowKit
theorem slI_nil (W : World) : SlI W none 0 [] := Sl.nil W 1 none 0 (by decide)
set_option maxHeartbeats 400000 in
theorem lisIn_any (A : Option Addr) (n c : Nat) (xs : List Int) (v : Int) (w : World) (h : SlI w A c xs) (hn : n = xs.length) :
    Calls Try.prog 11 #[.slice A n c, .int .i64 v] w fun e w' => e = .returned (.bool (hasB xs v)) ∧ w' = w := by
  subst hn
  have hmax := h.max
  have hcap := h.cap
  unfold maxLen at hmax
  go_enter Try.func11, Try.ntmps11
  go_wp2
  go_loop [5] (fun i => ∃ (k : Nat), k ≤ xs.length ∧ i = .int .i64 k ∧ Hid (∀ j, j < k → at0 xs j ≠ v)) (fun i => xs.length - (intOf i).toNat)
  case atStart => exact ⟨0, Nat.zero_le _, rfl, fun j hj => absurd hj (Nat.not_lt_zero _)⟩
  case round =>
    obtain ⟨k, hk, rfl, HV⟩ := hrel
    by_cases hlt : k < xs.length
    · obtain ⟨ad, rfl, hbl, hc0⟩ := h.at hlt
      by_cases he : xs[k] = v
      · have g : (xs[k] == v) = true := beq_iff_eq.2 he
        have HR := hd (hasB_at hlt he)
        clear he
        go_wp2
        go_ret
        exact ⟨by rw [HR.out]; rfl, rfl⟩
      · have g : (xs[k] == v) = false := beq_eq_false_iff_ne.2 he
        have HV' := hd (fun j (hj : j < k + 1) => (show at0 xs j ≠ v by
          by_cases e : j = k
          · subst e; rw [at0_of hlt]; exact he
          · exact HV.out j (by omega)))
        clear he
        go_wp2
        go_round
        case rel => exact ⟨k + 1, by omega, by go_num, HV'⟩
        case measure => simp [intOf]; omega
    · obtain rfl : k = xs.length := by omega
      have HR := hd (hasB_none HV.out)
      go_wp2
      go_ret
      exact ⟨by rw [HR.out]; rfl, rfl⟩
end Go.Proofs.Ytmenknnncjbbpaa
