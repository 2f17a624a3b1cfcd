/- Contracts of leases: ownerAt, BusyAt, MostLeased. -/
import Derived.Test.YtkkikpmelpjllaaWL2
import Derived.Deep.RegionWith
namespace Go.Proofs.Ytkkikpmelpjllaa
open Go.RowKit
set_option maxHeartbeats 1000000 in
theorem ownerAt_any (A : Option Addr) (c : Nat) (xs : List Le) (k t : Int) (w : World) (h : SlL w A c xs) :
    Calls Try.prog 39 #[.slice A xs.length c, .int .i64 k, .int .i64 t] w fun e w' => e = .returned (.int .i64 (ownL xs k t)) ∧ Below w.heap.size w w' := by
  have hmax := Sl.max h
  have hcap := Sl.cap h
  unfold maxLen at hmax
  have H := hd h
  clear h
  go_enter Try.func39, Try.ntmps39
  go_wp2
  go_loopw [8, 11] (fun _ i wr => ∃ (j : Nat), j ≤ xs.length ∧ i = .int .i64 j ∧ Hid (ownL xs k t = ownL (xs.drop j) k t) ∧ Below w.heap.size w wr) (fun _ i _ => xs.length - (intOf i).toNat)
  case atStart => exact ⟨0, Nat.zero_le _, rfl, rfl, Below.refl _ _⟩
  case round =>
    obtain ⟨j, hj, rfl, HV, hb⟩ := hrel
    by_cases hlt : j < xs.length
    · obtain ⟨ad, rfl, -, c0, c1, c2, c3⟩ := (H.out.ext hb).at hlt
      have HB := hd (ext_alloc hb (.cells #[.int .i64 xs[j].1, .int .i64 xs[j].2.1, .int .i64 xs[j].2.2.1, .int .i64 xs[j].2.2.2] 30))
      clear hb
      by_cases h1 : xs[j].1 = k
      · have g1 : (xs[j].1 == k) = true := beq_iff_eq.2 h1
        by_cases h2 : xs[j].2.2.1 ≤ t
        · by_cases h3 : t < xs[j].2.2.2
          · have HV' := hd (HV.out.trans (own_yes hlt ⟨h1, h2, h3⟩))
            clear h1
            go_wp2
            go_ret
            exact ⟨by rw [HV'.out]; rfl, HB.out⟩
          · have HV' := hd (HV.out.trans (own_no hlt fun h => h3 h.2.2))
            clear h1
            go_wp2
            go_roundw
            case rel => exact ⟨j + 1, by omega, by go_num, HV', HB.out⟩
            case measure => simp [intOf]; omega
        · have HV' := hd (HV.out.trans (own_no hlt fun h => h2 h.2.1))
          clear h1
          go_wp2
          go_roundw
          case rel => exact ⟨j + 1, by omega, by go_num, HV', HB.out⟩
          case measure => simp [intOf]; omega
      · have g1 : (xs[j].1 == k) = false := beq_eq_false_iff_ne.2 h1
        have HV' := hd (HV.out.trans (own_no hlt fun h => h1 h.1))
        clear h1
        go_wp2
        go_roundw
        case rel => exact ⟨j + 1, by omega, by go_num, HV', HB.out⟩
        case measure => simp [intOf]; omega
    · obtain rfl : j = xs.length := by omega
      have HV' := hd (HV.out.trans (own_done xs k t))
      go_wp2
      go_ret
      exact ⟨by rw [HV'.out]; rfl, hb⟩
/-- A count of connections handed back as a slice's length. -/
def Bus (n : Nat) (w : World) (e : Ending) (w' : World) : Prop := ∃ (P : Option Addr) (p : Nat), e = .returned (.slice P n p) ∧ Below w.heap.size w w'
set_option maxHeartbeats 1000000 in
theorem busyAt_any (A : Option Addr) (c : Nat) (xs : List Le) (t : Int) (w : World) (h : SlL w A c xs) (hv : VL xs = true) :
    Calls Try.prog 23 #[.slice A xs.length c, .int .i64 t] w (Bus (busL xs t 6).length w) := by
  have H := hd h
  clear h
  have HV := hd (fun W s => vl_any A c xs W s)
  rw [hv] at HV
  clear hv
  go_enter Try.func23, Try.ntmps23
  go_wp2_with fail
  refine (HV.out _ H.out).mono ?_
  rintro e w1 ⟨rfl, hx⟩
  have HX := hd hx
  clear hx
  go_wp2
  go_loopw [5, 6, 10] (fun v _ i wr => ∃ (k : Nat) (ys : List Int), k ≤ 6 ∧ i = .int .i64 k ∧ ys.length ≤ k ∧ Hid (ys = busL xs t k) ∧ wr.ownsRow w.heap.size 3 1 v ys.length (ci ys) ∧ Below w.heap.size w wr) (fun _ _ i _ => 6 - (intOf i).toNat)
  case atStart => exact ⟨0, [], by omega, rfl, by simp, rfl, ⟨rfl, .inl ⟨rfl, rfl⟩⟩, HX.out⟩
  case round =>
    clear HX
    obtain ⟨k, ys, hk, rfl, hyl, HY, hown, hb⟩ := hrel
    have HB := hd hb
    have HO := hd hown
    have s := H.out.ext hb
    have hz := hb.size
    clear hb hown
    by_cases hlt : k < 6
    · by_cases h0 : 0 ≤ ownL xs k t
      · have HY' := hd (show ys ++ [(k : Int)] = busL xs t (k + 1) by rw [HY.out, bus_yes h0])
        obtain ⟨o, ho⟩ : ∃ o, o = ownL xs k t := ⟨_, rfl⟩
        have HN := hd (fun W (s : SlL W A c xs) => ownerAt_any A c xs k t W s)
        rw [← ho] at h0 HN
        clear ho
        go_wp2_with fail
        refine (HN.out _ s).mono ?_
        rintro e w2 ⟨rfl, hx⟩
        have hown := own_ext HO.out hx
        have hz2 := hx.size
        have HX := hd (ext_trans HB.out hx)
        clear hx s
        go_wp2_with (at_builtin; refine wpList_app eltI (.tmp 18) (.tmp 20) (news := ci [(k : Int)]) (m := 1) hown rfl (ci_one _) (by omega) (by omega) (by omega) rfl rfl rfl rfl ?_; intro v' w8 hown8 hg8)
        go_roundw
        case rel => exact ⟨k + 1, ys ++ [(k : Int)], by omega, by go_num, by simp; omega, HY', by rw [ci_append, List.length_append]; exact hown8, HX.out.grown hg8 HX.out.size (fun j hj => own_ge hown j hj)⟩
        case measure => simp [intOf]; omega
      · have HY' := hd (show ys = busL xs t (k + 1) by rw [HY.out, bus_no h0])
        obtain ⟨o, ho⟩ : ∃ o, o = ownL xs k t := ⟨_, rfl⟩
        have HN := hd (fun W (s : SlL W A c xs) => ownerAt_any A c xs k t W s)
        rw [← ho] at h0 HN
        clear ho
        go_wp2_with fail
        refine (HN.out _ s).mono ?_
        rintro e w2 ⟨rfl, hx⟩
        have hown := hd (own_ext HO.out hx)
        have HX := hd (ext_trans HB.out hx)
        clear hx s
        go_wp2
        go_roundw
        case rel => exact ⟨k + 1, ys, by omega, by go_num, by omega, HY', hown.out, HX.out⟩
        case measure => simp [intOf]; omega
    · obtain rfl : k = 6 := by omega
      obtain ⟨P, p, rfl, hs, -⟩ := Sl.of_own HO.out
      have r1 := hs.cap
      have r2 := hs.max
      have HE := hd (congrArg List.length HY.out)
      clear hs
      go_wp2_with fail
      refine (clipI_any _ _ _ _ r1 r2).mono ?_
      rintro e w' ⟨rfl, rfl⟩
      go_wp2
      go_ret
      exact ⟨P, ys.length, by rw [← HE.out]; rfl, HB.out⟩
set_option maxHeartbeats 1000000 in
theorem mostLeased_any (A : Option Addr) (c : Nat) (xs : List Le) (w : World) (h : SlL w A c xs) (hv : VL xs = true) :
    Calls Try.prog 8 #[.slice A xs.length c] w fun e w' => e = .returned (.int .i64 (ML xs)) ∧ Below w.heap.size w w' := by
  have hmax := Sl.max h
  have hcap := Sl.cap h
  unfold maxLen at hmax
  have H := hd h
  have HBU := hd (fun (t : Int) W (s : SlL W A c xs) => busyAt_any A c xs t W s hv)
  clear h
  have HV := hd (fun W s => vl_any A c xs W s)
  rw [hv] at HV
  clear hv
  go_enter Try.func8, Try.ntmps8
  go_wp2_with fail
  refine (HV.out _ H.out).mono ?_
  rintro e w1 ⟨rfl, hx⟩
  have HX := hd hx
  clear hx
  go_wp2
  go_loopw [3, 5, 11] (fun v _ i wr => ∃ (k m : Nat), k ≤ xs.length ∧ i = .int .i64 k ∧ v = .int .i64 (m : Int) ∧ m ≤ 6 ∧ Hid (m = mlU xs k) ∧ Below w.heap.size w wr) (fun _ _ i _ => xs.length - (intOf i).toNat)
  case atStart => exact ⟨0, 0, by omega, rfl, rfl, by omega, rfl, HX.out⟩
  case round =>
    clear HX
    obtain ⟨k, m, hk, rfl, rfl, hm, HM, hb⟩ := hrel
    by_cases hlt : k < xs.length
    · obtain ⟨ad, rfl, -, c0, c1, c2, c3⟩ := (H.out.ext hb).at hlt
      have HB := hd (ext_alloc hb (.cells #[.int .i64 xs[k].1, .int .i64 xs[k].2.1, .int .i64 xs[k].2.2.1, .int .i64 xs[k].2.2.2] 30))
      clear hb
      have s := H.out.ext HB.out
      obtain ⟨n, hn⟩ : ∃ n, n = (busL xs xs[k].2.2.1 6).length := ⟨_, rfl⟩
      have hn6 : n ≤ 6 := by rw [hn]; exact bus_len _ _ _
      have HN := hd (HBU.out xs[k].2.2.1)
      rw [← hn] at HN
      have HM' := hd (show max m n = mlU xs (k + 1) by rw [mlU_step hlt, HM.out, hn])
      clear hn
      by_cases hmn : m < n
      · have HE := hd (show n = mlU xs (k + 1) by rw [← HM'.out]; omega)
        go_wp2_with fail
        refine (HN.out _ s).mono ?_
        rintro e w2 ⟨P, p, rfl, hx⟩
        have HX := hd (ext_trans HB.out hx)
        clear hx s
        go_wp2
        go_roundw
        case rel => exact ⟨k + 1, n, by omega, by go_num, by go_num, hn6, HE, HX.out⟩
        case measure => simp [intOf]; omega
      · have HE := hd (show m = mlU xs (k + 1) by rw [← HM'.out]; omega)
        go_wp2_with fail
        refine (HN.out _ s).mono ?_
        rintro e w2 ⟨P, p, rfl, hx⟩
        have HX := hd (ext_trans HB.out hx)
        clear hx s
        go_wp2
        go_roundw
        case rel => exact ⟨k + 1, m, by omega, by go_num, by go_num, hm, HE, HX.out⟩
        case measure => simp [intOf]; omega
    · obtain rfl : k = xs.length := by omega
      have HE := hd (show (m : Int) = (ML xs : Int) by rw [HM.out]; rfl)
      go_wp2
      go_ret
      exact ⟨by rw [← HE.out]; rfl, hb⟩
end Go.Proofs.Ytkkikpmelpjllaa
