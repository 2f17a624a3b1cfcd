/- Contracts of leases: spec.validLeases. -/
import Derived.Test.YtkkikpmelpjllaaWL2
import Derived.Deep.RegionWith
import Derived.StillTailTactics
namespace Go.Proofs.Ytkkikpmelpjllaa
open Go.RowKit
section
variable {xs : List Le} {p : Le → Bool} {k j : Nat}
theorem anyT_no (h : k < xs.length) (hj : j < k) (h1 : p (xs[j]'(by omega)) = false) : ((xs.take k).drop j).any p = ((xs.take k).drop (j + 1)).any p :=
  any_no (xs := xs.take k) (by rw [List.length_take]; omega) (by rw [List.getElem_take]; exact h1)
theorem anyT_yes (h : k < xs.length) (hj : j < k) (h1 : p (xs[j]'(by omega)) = true) : ((xs.take k).drop j).any p = true :=
  any_yes (xs := xs.take k) (by rw [List.length_take]; omega) (by rw [List.getElem_take]; exact h1)
theorem anyT_done (h : k ≤ xs.length) : ((xs.take k).drop k).any p = false := by
  have := any_done (xs := xs.take k) p
  rwa [List.length_take, Nat.min_eq_left h] at this
end
set_option maxRecDepth 100000 in
set_option maxHeartbeats 400000 in
theorem svl_any (A : Option Addr) (c : Nat) (xs : List Le) (w : World) (h : SlL w A c xs) :
    Calls Try.prog 20 #[.slice A xs.length c] w fun e w' => e = .returned (.bool (VL xs)) ∧ Below w.heap.size w w' := by
  have hmax := Sl.max h
  have hcap := Sl.cap h
  unfold maxLen at hmax
  have H := hd h
  clear h
  go_enter Try.func20, Try.ntmps20
  go_wp2
  go_loopw [3] (fun i wr => ∃ (k : Nat), k ≤ xs.length ∧ i = .int .i64 k ∧ Hid (VlU xs k) ∧ Below w.heap.size w wr) (fun i _ => xs.length - (intOf i).toNat)
  case atStart => exact ⟨0, Nat.zero_le _, rfl, fun i _ h => absurd h (by omega), Below.refl _ _⟩
  case round =>
    obtain ⟨k, hk, rfl, HV, hb⟩ := hrel
    by_cases hlt : k < xs.length
    · obtain ⟨ad, rfl, hbl, hc0, hc1, hc2, hc3⟩ := (H.out.ext hb).at hlt
      cases h1 : okL xs[k] with
      | false =>
        have HV' := hd (vl_bad1 hlt h1)
        go_wp2_with (go_at_call 37; refine (svl1_any xs[k] _).mono ?_; rintro e w1 ⟨rfl, hx⟩)
        go_ret
        exact ⟨by rw [HV'.out]; rfl, ext_trans hb hx⟩
      | true =>
        have HO := hd h1
        go_wp2_with fail
        refine (svl1_any xs[k] _).mono ?_
        rintro e w1 ⟨rfl, hx⟩
        rw [h1]
        have HB1 := hd (ext_trans hb hx)
        clear h1 hc0 hc1 hc2 hc3 hx hb
        go_wp2
        go_loopw [4] (fun i wr => ∃ (j : Nat), j ≤ k ∧ i = .int .i64 j ∧ Hid (((xs.take k).any fun y => clB y xs[k]) = ((xs.take k).drop j).any fun y => clB y xs[k]) ∧ Below w.heap.size w wr) (fun i _ => k - (intOf i).toNat)
        case atStart => exact ⟨0, Nat.zero_le _, rfl, rfl, HB1.out⟩
        case round =>
          clear HB1
          obtain ⟨j, hj, rfl, HA, hb⟩ := hrel
          by_cases hjk : j < k
          · have hjx : j < xs.length := by omega
            obtain ⟨_, e1, -, hc0, hc1, hc2, hc3⟩ := (H.out.ext hb).at hlt
            injection e1 with e1
            subst e1
            obtain ⟨_, e1, -, hd0, hd1, hd2, hd3⟩ := (H.out.ext hb).at hjx
            injection e1 with e1
            subst e1
            have HB := hd hb
            clear hb
            by_cases he : xs[j].1 = xs[k].1
            · have ge : (xs[j].1 == xs[k].1) = true := beq_iff_eq.2 he
              cases hm : meB xs[j] xs[k].2.2.1 xs[k].2.2.2 with
              | true =>
                have HV' := hd (vl_bad2 hlt (HA.out.trans (anyT_yes hlt hjk (by simp only [clB, ge, hm, Bool.and_self]))))
                have HM := hd (fun W => smeets_any xs[j] xs[k] W)
                rw [hm] at HM
                clear he hm
                go_wp2_with fail
                go_still_tail 20, (by kernel_rfl)
                change wpList _ _ _ _ _ wr.drew
                go_wp2_with (go_at_call 38; refine (HM.out _).mono ?_; rintro e w7 ⟨rfl, hx7⟩)
                go_ret
                exact ⟨by rw [HV'.out]; rfl, ext_trans (ext_drew HB.out) hx7⟩
              | false =>
                have HA' := hd (HA.out.trans (anyT_no hlt hjk (by simp only [clB, hm, Bool.and_false])))
                have HM := hd (fun W => smeets_any xs[j] xs[k] W)
                rw [hm] at HM
                clear he hm
                go_wp2_with fail
                go_still_tail 20, (by kernel_rfl)
                change wpList _ _ _ _ _ wr.drew
                go_wp2_with (go_at_call 38; refine (HM.out _).mono ?_; rintro e w7 ⟨rfl, hx7⟩)
                go_roundw
                case rel => exact ⟨j + 1, by omega, by go_num, HA', ext_trans (ext_drew HB.out) hx7⟩
                case measure => simp [intOf]; omega
            · have ge : (xs[j].1 == xs[k].1) = false := beq_eq_false_iff_ne.2 he
              have HA' := hd (HA.out.trans (anyT_no hlt hjk (by simp only [clB, ge, Bool.false_and])))
              clear he
              go_wp2_with fail
              go_quiet (fail)
              go_wp2
              go_roundw
              case rel => exact ⟨j + 1, by omega, by go_num, HA', below_drewN HB.out _⟩
              case measure => simp [intOf]; omega
          · obtain rfl : j = k := by omega
            have HV' := hd (vl_step hlt HV.out HO.out (HA.out.trans (anyT_done hk)))
            have HB := hd hb
            clear hb
            go_wp2
            go_roundw
            case rel => exact ⟨j + 1, by omega, by go_num, HV', HB.out⟩
            case measure => simp [intOf]; omega
    · obtain rfl : k = xs.length := by omega
      have HV' := hd (vl_end HV.out)
      go_wp2
      go_ret
      exact ⟨by rw [HV'.out, show decide (xs.length ≤ 12) = decide ((xs.length : Int) ≤ 12) from decide_eq_decide.2 (by omega)]; rfl, hb⟩
end Go.Proofs.Ytkkikpmelpjllaa
