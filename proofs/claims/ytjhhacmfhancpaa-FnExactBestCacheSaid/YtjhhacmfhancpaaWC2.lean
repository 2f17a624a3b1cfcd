/- Contracts on caches: ValidCache of the reference, DeleteFunc. -/
import Derived.Test.YtjhhacmfhancpaaWC1
import Derived.Test.YtjhhacmfhancpaaWDl
import Derived.Deep.LoopGhost
import Derived.Lib.SlKept
namespace Go.Proofs.Ytjhhacmfhancpaa
open Go.RowKit Go.Lib Go.Sort
theorem VCa_dup {r : Int} {xs : List Int} {i j : Nat} (hi : i < xs.length) (hj : j < i) (h : at0 xs j = at0 xs i) : VCa r xs = false := by
  have h1 := ndB_no hi hj h
  simp only [VCa, difB, h1, Bool.and_false]
theorem VCa_eq2 {r : Int} {xs : List Int} (h : inB r 0 6 = true) (h2 : (xs.length : Int) ≤ r) (h3 : NdU xs xs.length) : VCa r xs = allL xs 0 9 := by simp only [VCa, difB, h, decide_eq_true h2, ndB_yes h3, Bool.true_and, Bool.and_true]
set_option maxRecDepth 100000 in
set_option maxHeartbeats 2000000 in
theorem svca_any (r : Int) (A : Option Addr) (c : Nat) (xs : List Int) (w : World) (h : SlI w A c xs) :
    Calls Try.prog 29 #[.agg #[.int .i64 r, .slice A xs.length c]] w fun e w' => e = .returned (.bool (VCa r xs)) ∧ Below w.heap.size w w' := by
  have hmax := h.max
  have hcap := h.cap
  unfold maxLen at hmax
  have hb0 : Below w.heap.size w (w.alloc (.cells #[.int .i64 r, .slice A xs.length c] 27)) := ext_alloc (Below.refl _ _) _
  have HB0 := hd hb0
  have HX0 := hd (Cx.new (e := 27) w (.int .i64 r) (.slice A xs.length c))
  have HS := hd h
  clear hb0 h
  go_enter Try.func29, Try.ntmps29
  go_wp2
  go_loopw [3, 4] (fun i _ wr => ∃ (k : Nat), k ≤ xs.length ∧ i = .int .i64 k ∧ Hid (NdU xs k) ∧ Hid (Cx 27 wr w.heap.size (.int .i64 r) (.slice A xs.length c)) ∧ Below w.heap.size w wr) (fun i _ _ => xs.length - (intOf i).toNat)
  case atStart => exact ⟨0, Nat.zero_le _, rfl, fun i hi => absurd hi (Nat.not_lt_zero _), HX0.out, HB0.out⟩
  case round =>
    clear HX0 HB0
    obtain ⟨k, hk, rfl, HN, HX, hb⟩ := hrel
    have b0 := HX.out.c0
    have b1 := HX.out.c1
    by_cases hlt : k < xs.length
    · obtain ⟨ad, rfl, -, -⟩ := SlI.at HS.out hlt
      go_wp2
      obtain ⟨w6, hw6⟩ : ∃ x, x = wr := ⟨_, rfl⟩
      have HZ := hd (ext_trans hb (Below.refl _ _))
      clear hw6
      go_loopw [4] (fun i w2 => ∃ (m : Nat), m ≤ k ∧ i = .int .i64 m ∧ Hid (∀ j, j < m → at0 xs j ≠ at0 xs k) ∧ Hid (Cx 27 w2 w.heap.size (.int .i64 r) (.slice (some ad) xs.length c)) ∧ Below w.heap.size w w2) (fun i _ => k - (intOf i).toNat)
      case atStart => exact ⟨0, Nat.zero_le _, rfl, fun j hj => absurd hj (Nat.not_lt_zero _), HX.out, hb⟩
      case round =>
        clear b0 b1 HX hb HZ
        obtain ⟨m, hm, rfl, HM, HX, hb⟩ := hrel
        have b0 := HX.out.c0
        have b1 := HX.out.c1
        have hs := SlI.ext HS.out hb
        have hck := SlI.atC hs hlt
        by_cases hlm : m < k
        · have hmx : m < xs.length := by omega
          have hcm := SlI.atC hs hmx
          by_cases he : xs[m] = xs[k]
          · have g : (xs[m] == xs[k]) = true := beq_iff_eq.2 he
            have HR := hd (VCa_dup (r := r) hlt hlm (by rw [at0_of hmx, at0_of hlt]; exact he))
            clear he hs
            go_wp2_with fail
            go_quiet (fail)
            go_wp2
            go_ret
            exact ⟨by rw [HR.out]; rfl, below_drewN hb _⟩
          · have g : (xs[m] == xs[k]) = false := beq_eq_false_iff_ne.2 he
            have HM' := hd (fun j (hj : j < m + 1) => (show at0 xs j ≠ at0 xs k by
              by_cases e : j = m
              · subst e; rw [at0_of hmx, at0_of hlt]; exact he
              · exact HM.out j (by omega)))
            clear he hs
            go_wp2_with fail
            go_quiet (fail)
            go_wp2
            go_roundw
            case rel => exact ⟨m + 1, by omega, by go_num, HM', HX, below_drewN hb _⟩
            case measure => simp [intOf]; omega
        · obtain rfl : m = k := by omega
          have HN' := hd (ndU_next HN.out HM.out)
          clear hs
          go_wp2
          go_roundw
          case rel => exact ⟨m + 1, by omega, by go_num, HN', HX, hb⟩
          case measure => simp [intOf]; omega
    · obtain rfl : k = xs.length := by omega
      have s := SlI.ext HS.out hb
      cases h1 : inB r 0 6 with
      | false =>
        have HR := hd (show VCa r xs = false by simp only [VCa, h1, Bool.false_and])
        go_wp2_with (go_at_call 40; refine (inr_any _ _ _ _).mono ?_; rintro e w' ⟨rfl, rfl⟩; rw [h1])
        go_ret
        exact ⟨by rw [HR.out]; rfl, hb⟩
      | true =>
        by_cases h2 : (xs.length : Int) ≤ r
        · have g2 : decide ((xs.length : Int) ≤ r) = true := decide_eq_true h2
          have HR := hd (VCa_eq2 h1 h2 HN.out)
          clear h2
          go_wp2_with (first | (go_at_call 40; refine (inr_any _ _ _ _).mono ?_; rintro e w' ⟨rfl, rfl⟩; rw [h1]) | (go_at_call 43; refine (sAllIn_any _ _ _ _ _ _ s).mono ?_; rintro e w' ⟨rfl, rfl⟩))
          go_ret
          exact ⟨by rw [HR.out]; rfl, hb⟩
        · have g2 : decide ((xs.length : Int) ≤ r) = false := decide_eq_false h2
          have HR := hd (show VCa r xs = false by simp only [VCa, decide_eq_false h2, Bool.false_and, Bool.and_false])
          clear h2
          go_wp2_with (go_at_call 40; refine (inr_any _ _ _ _).mono ?_; rintro e w' ⟨rfl, rfl⟩; rw [h1])
          go_ret
          exact ⟨by rw [HR.out]; rfl, hb⟩
theorem spvca_any (r : Int) (A : Option Addr) (c : Nat) (xs : List Int) (w : World) (h : SlI w A c xs) :
    Calls Try.prog 9 #[.agg #[.int .i64 r, .slice A xs.length c]] w fun e w' => e = .returned (.bool (VCa r xs)) ∧ Below w.heap.size w w' := by
  have hb0 : Below w.heap.size w (w.alloc (.cells #[.int .i64 r, .slice A xs.length c] 27)) := ext_alloc (Below.refl _ _) _
  have s := h.ext hb0
  go_enter Try.func9, Try.ntmps9
  go_wp2_with fail
  refine (svca_any _ _ _ _ _ s).mono ?_
  rintro e w1 ⟨rfl, hx⟩
  go_wp2
  go_ret
  exact ⟨rfl, ext_trans hb0 hx⟩
theorem use1_any (n v : Int) (p : Nat) (w : World) (c0 : w.cell? ⟨p, 0, none⟩ = some (.int .i64 v)) :
    Calls Try.prog 50 #[.int .i64 n, .pointer (some ⟨p, 0, none⟩)] w fun e w' => e = .returned (.bool (n == v)) ∧ w' = w := by
  go_enter Try.func50, Try.ntmps50
  go_wp2
  go_ret
  exact ⟨rfl, rfl⟩
set_option maxHeartbeats 400000 in
theorem ixU_any (A : Option Addr) (c : Nat) (xs : List Int) (v : Int) (p : Nat) (w : World) (h : SlI w A c xs) (c0 : w.cell? ⟨p, 0, none⟩ = some (.int .i64 v)) :
    Calls Try.prog 53 #[.slice A xs.length c, .func (.func 50) #[] #[.pointer (some ⟨p, 0, none⟩)]] w fun e w' => e = .returned (.int .i64 (ixB xs v)) ∧ w' = w := by
  have hmax := h.max
  have hcap := h.cap
  unfold maxLen at hmax
  go_enter Try.func53, Try.ntmps53
  go_wp2
  go_loop [5, 8] (fun _ i => ∃ (k : Nat), k ≤ xs.length ∧ i = .int .i64 k ∧ Hid (∀ j, j < k → at0 xs j ≠ v)) (fun _ i => xs.length - (intOf i).toNat)
  case atStart => exact ⟨0, Nat.zero_le _, rfl, fun j hj => absurd hj (Nat.not_lt_zero _)⟩
  case round =>
    obtain ⟨k, hk, rfl, HV⟩ := hrel
    by_cases hlt : k < xs.length
    · obtain ⟨ad, rfl, hbl, hc0⟩ := h.at hlt
      by_cases he : xs[k] = v
      · have g : (xs[k] == v) = true := beq_iff_eq.2 he
        have HR := hd (ixB_hit hlt he HV.out)
        clear he
        go_wp2_with (go_at_call 50; refine (use1_any _ _ _ _ c0).mono ?_; rintro e w' ⟨rfl, rfl⟩)
        go_ret
        exact ⟨by rw [HR.out]; rfl, rfl⟩
      · have g : (xs[k] == v) = false := beq_eq_false_iff_ne.2 he
        have HV' := hd (fun j (hj : j < k + 1) => (show at0 xs j ≠ v by
          by_cases e : j = k
          · subst e; rw [at0_of hlt]; exact he
          · exact HV.out j (by omega)))
        clear he
        go_wp2_with (go_at_call 50; refine (use1_any _ _ _ _ c0).mono ?_; rintro e w' ⟨rfl, rfl⟩)
        go_round
        case rel => exact ⟨k + 1, by omega, by go_num, HV'⟩
        case measure => simp [intOf]; omega
    · obtain rfl : k = xs.length := by omega
      have HR := hd (ixB_none (not_mem_of HV.out))
      go_wp2
      go_ret
      exact ⟨by rw [HR.out]; rfl, rfl⟩
end Go.Proofs.Ytjhhacmfhancpaa
