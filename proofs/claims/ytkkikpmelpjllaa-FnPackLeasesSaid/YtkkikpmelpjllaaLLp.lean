/- The walk of the law PackLeases. -/
import Derived.Test.YtkkikpmelpjllaaWL3
import Derived.Test.YtkkikpmelpjllaaWL8
import Derived.Test.YtkkikpmelpjllaaDrL2
import Derived.Laws.StructEq
namespace Go.Proofs.Ytkkikpmelpjllaa
open Go.RowKit
set_option maxHeartbeats 1000000 in
theorem stable0_any (p : Nat) (w : World) : Calls Try.prog 13 #[.slice none 0 0, .func (.func 14) #[] #[.pointer (some ⟨p, 0, none⟩)]] w fun e w' => e = .returned (.tuple #[]) ∧ w' = w := by
  have hI : Calls Try.prog 43 #[.slice none 0 0, .int .i64 0, .int .i64 0, .func (.func 14) #[] #[.pointer (some ⟨p, 0, none⟩)]] w fun e w' => e = .returned (.tuple #[]) ∧ w' = w := by
    go_enter Try.func43, Try.ntmps43
    go_wp2
    go_loopw [8, 9] (fun vi _ wr => vi = .int .i64 1 ∧ wr = w) (fun _ _ _ => 0)
    case atStart => exact ⟨rfl, rfl⟩
    case round =>
      obtain ⟨rfl, rfl⟩ := hrel
      go_wp2
      go_end0
      exact ⟨rfl, rfl⟩
  have hS : Calls Try.prog 34 #[.slice none 0 0, .int .i64 0, .func (.func 14) #[] #[.pointer (some ⟨p, 0, none⟩)]] w fun e w' => e = .returned (.tuple #[]) ∧ w' = w := by
    go_enter Try.func34, Try.ntmps34
    go_wp2
    go_loopw [7, 8] (fun a b wr => a = .int .i64 0 ∧ b = .int .i64 20 ∧ wr = w) (fun _ _ _ => 0)
    case atStart => exact ⟨rfl, rfl, rfl⟩
    case round =>
      obtain ⟨rfl, rfl, rfl⟩ := hrel
      go_wp2_with fail
      refine hI.mono ?_
      rintro e w1 ⟨rfl, rfl⟩
      clear hI
      obtain ⟨w2, hw2⟩ : ∃ x, x = w1 := ⟨_, rfl⟩
      rw [← hw2]
      have HW2 := hd hw2
      clear hw2
      go_wp2
      go_loopw [6, 7, 8, 9] (fun a _ _ _ wr => a = .int .i64 20 ∧ wr = w2) (fun _ _ _ _ _ => 0)
      case atStart => exact ⟨rfl, rfl⟩
      case round =>
        obtain ⟨rfl, rfl⟩ := hrel
        go_wp2
        go_end0
        exact ⟨rfl, HW2.out⟩
  go_enter Try.func13, Try.ntmps13
  go_wp2_with fail
  refine hS.mono ?_
  rintro e w1 ⟨rfl, rfl⟩
  clear hI hS
  go_wp2
  go_end0
  exact ⟨rfl, rfl⟩
theorem ord_nil : Ord [] [] := ⟨List.Perm.refl _, List.Pairwise.nil⟩
set_option maxRecDepth 100000 in
set_option maxHeartbeats 1000000 in
theorem pk0_any (L : Option Addr) (l : Nat) (w : World) (h : SlL w L l []) :
    Calls Try.prog 5 #[.slice L 0 l] w fun e w' => ∃ os, Ord [] os ∧ PkR [] os w e w' := by
  have hv : VL [] = true := VL_iff.2 ⟨fun i h => absurd h (by simp), by simp⟩
  have HV := hd (fun W s => vl_any L l [] W s)
  rw [hv] at HV
  obtain ⟨W0, hW0⟩ : ∃ W0, W0 = w.alloc (.cells #[.slice L 0 l] 23) := ⟨_, rfl⟩
  have hb0 : Below w.heap.size w W0 := by rw [hW0]; exact ext_alloc (Below.refl _ _) _
  have v1 : Vx 23 W0 w.heap.size (.slice L 0 l) := by rw [hW0]; exact Vx.new _ _ _
  have s1 := h.ext hb0
  have c1 := v1.c
  have HF := hd (And.intro v1 (And.intro s1 hb0))
  clear hv h v1 hb0
  go_enter Try.func5, Try.ntmps5
  go_upto_region 1 with fail
  rw [← hW0]
  clear hW0
  go_wp2_with fail
  refine (HV.out _ s1).mono ?_
  rintro e w1 ⟨rfl, hx⟩
  replace HF := hd (And.intro (HF.out.1.ext hx) (And.intro (HF.out.2.1.ext hx) (ext_trans HF.out.2.2 hx)))
  clear hx s1 c1
  have c1 := HF.out.1.c
  have s1 := HF.out.2.1
  go_wp2_with fail
  refine (cloneL_any L l [] _ s1 (by simp)).mono ?_
  rintro e w2 ⟨O, o, rfl, hr, hx⟩
  have hw1 : w.heap.size < w1.heap.size := HF.out.1.lt
  have hw2 := hx.size
  have HR := hd hr
  replace HF := hd (And.intro (HF.out.1.ext hx) (And.intro (HF.out.2.1.ext hx) (ext_trans HF.out.2.2 hx)))
  clear hx s1 c1 hr
  go_upto_region 5 with fail
  obtain ⟨W5, hW5⟩ : ∃ W5, W5 = (w2.alloc (.cells #[.slice O 0 o] 23)).alloc (.cells #[.slice none 0 0] 37) := ⟨_, rfl⟩
  have hx : Below w2.heap.size w2 W5 := by rw [hW5]; exact ext_alloc (ext_alloc (Below.refl _ _) _) _
  have b4 : Vx 23 W5 w2.heap.size (.slice O 0 o) := by rw [hW5]; exact (Vx.new _ _ _).alloc _
  have b5 : Vx 37 W5 (w2.heap.size + 1) (.slice none 0 0) := by
    have := Vx.new 37 (w2.alloc (.cells #[.slice O 0 o] 23)) (.slice none 0 0)
    rw [World.size_alloc] at this
    rw [hW5]
    exact this
  have c1 := (HF.out.1.ext hx).c
  have c4 := b4.c
  have c5 := b5.c
  have HE := hd (And.intro (Rw.ext HR.out hx).1 (ext_trans HF.out.2.2 hx))
  rw [← hW5]
  clear hW5 hx b4 b5 HF HR
  go_wp2
  go_loopw [6, 18] (fun _ i wr => i = .int .i64 0 ∧ wr = W5) (fun _ _ _ => 0)
  case atStart => exact ⟨rfl, rfl⟩
  case round =>
    obtain ⟨rfl, rfl⟩ := hrel
    go_wp2_with (go_at_call 13; refine (stable0_any _ _).mono ?_; rintro e w7 ⟨rfl, rfl⟩)
    obtain ⟨w8, hw8⟩ : ∃ x, x = w7 := ⟨_, rfl⟩
    rw [← hw8] at c1 c4 c5 HE ⊢
    clear hw8
    go_loopw [7, 8, 9, 10, 31] (fun _ _ _ _ i wr => i = .int .i64 0 ∧ wr = w8) (fun _ _ _ _ _ _ => 0)
    case atStart => exact ⟨rfl, rfl⟩
    case round =>
      obtain ⟨rfl, rfl⟩ := hrel
      go_wp2
      go_ret2
      exact ⟨[], ord_nil, O, o, rfl, HE.out.1, HE.out.2⟩
theorem uLe : Try.prog.underlying 30 = some (.struct (Try.prog.fieldsOf 30)) := by kernel_rfl
theorem sLe : Try.prog.stoodInHeld 30 = false := by kernel_rfl
theorem gLe : Try.prog.eqGuardType Try.prog.depth 30 = false := by kernel_rfl
theorem neqLe (a b c d : Int) (w : World) : (binOp .neq 30 (.agg #[.int .i64 a, .int .i64 b, .int .i64 c, .int .i64 d]) (.agg #[.int .i64 a, .int .i64 b, .int .i64 c, .int .i64 d])).run Try.prog w = .ok (.bool false) w := by
  have u3 := Try.underlying3
  have a3 := Try.isAgg3
  have z3 := Try.sizeOf3
  rw [run_neq_struct, show (10000 : Nat) = 9999 + 1 from rfl, run_equalIn_agg w 9999 30 _ _ uLe sLe]
  simp only [Program.fieldsOf, Try.underlying30]
  go_simp
set_option maxHeartbeats 1000000 in
theorem eqLe_any (A A' : Option Addr) (n c c' : Nat) (xs : List Le) (w : World) (hn : n = xs.length) (h : SlL w A c xs) (h' : SlL w A' c' xs) :
    Calls Try.prog 7 #[.slice A n c, .slice A' n c'] w fun e w' => e = .returned (.bool true) ∧ Below w.heap.size w w' := by
  subst hn
  have hmax := Sl.max h
  have hcap := Sl.cap h
  have hcap' := Sl.cap h'
  unfold maxLen at hmax
  have hlb : ((xs.length : Int) != (xs.length : Int)) = false := by simp
  have HH := hd (And.intro h h')
  clear h h'
  have gS := gLe
  go_enter Try.func7, Try.ntmps7
  go_wp2
  go_loopw [5] (fun i wr => ∃ k : Nat, k ≤ xs.length ∧ i = .int .i64 k ∧ Below w.heap.size w wr) (fun i _ => xs.length - (intOf i).toNat)
  case atStart => exact ⟨0, by omega, rfl, Below.refl _ _⟩
  case round =>
    obtain ⟨k, hk, rfl, hb⟩ := hrel
    by_cases hlt : k < xs.length
    · obtain ⟨ad, rfl, hbl, hc0, hc1, hc2, hc3⟩ := (HH.out.1.ext hb).at hlt
      obtain ⟨ad', rfl, hbl', hd0, hd1, hd2, hd3⟩ := (HH.out.2.ext hb).at hlt
      have hn : ∀ W : World, (binOp .neq 30 (.agg #[.int .i64 xs[k].1, .int .i64 xs[k].2.1, .int .i64 xs[k].2.2.1, .int .i64 xs[k].2.2.2]) (.agg #[.int .i64 xs[k].1, .int .i64 xs[k].2.1, .int .i64 xs[k].2.2.1, .int .i64 xs[k].2.2.2])).run Try.prog W = .ok (.bool false) W := fun W => neqLe _ _ _ _ W
      go_wp2_with fail
      go_quiet (fail)
      go_wp2
      go_roundw
      case rel => exact ⟨k + 1, by omega, by go_num, below_drewN hb _⟩
      case measure => simp [intOf]; omega
    · obtain rfl : k = xs.length := by omega
      go_wp2
      go_ret
      exact ⟨rfl, hb⟩
set_option maxRecDepth 100000 in
set_option maxHeartbeats 4000000 in
theorem lawPackLeases (A : Option Addr) (n c : Nat) (w : World) (h : SlB w A n c) :
    Calls Try.prog 3 #[.slice A n c] w fun e w' => e = .returned (.bool true) ∧ Below w.heap.size w w' := by
  have h1 := h.1
  have h2 := h.2.1
  unfold maxLen at h2
  by_cases hn : 1048576 < n
  · have hnz : (1048576 : Int) < (n : Int) := by omega
    go_enter Try.func3, Try.ntmps3
    go_wp2
    go_ret
    exact ⟨rfl, Below.refl _ _⟩
  · have hnz : ¬ (1048576 : Int) < (n : Int) := by omega
    go_enter Try.func3, Try.ntmps3
    go_wp2_with fail
    refine (drawPackLeases_any A n c w h).mono ?_
    rintro e w1 ⟨B, d, ys, rfl, hs, hb⟩
    cases hv : VL ys with
    | false =>
      have HP := hd (pkNo_any B d ys w1 hs hv)
      clear h
      go_wp2_with fail
      refine HP.out.mono ?_
      rintro e w2 ⟨rfl, hx⟩
      replace hs := hs.ext hx
      replace hb := ext_trans hb hx
      have HP2 := hd (spkNo_any B d ys w2 hs hv)
      clear hx hv
      go_wp2_with fail
      refine HP2.out.mono ?_
      rintro e w3 ⟨rfl, hx⟩
      replace hb := ext_trans hb hx
      have HE := hd (fun W => eqLe_any none none 0 0 0 [] W rfl (rwL_nil W 0 none 0 (by decide)).sl (rwL_nil W 0 none 0 (by decide)).sl)
      clear hx hs
      go_wp2_with fail
      refine (HE.out _).mono ?_
      rintro e w4 ⟨rfl, hx⟩
      replace hb := ext_trans hb hx
      clear hx
      go_wp2_with fail
      refine (HE.out _).mono ?_
      rintro e w5 ⟨rfl, hx⟩
      have HB := hd (ext_trans hb hx)
      clear hx hb
      go_wp2
      go_ret
      exact ⟨rfl, HB.out⟩
    | true =>
      have HP : Hid (Calls Try.prog 5 #[.slice B ys.length d] w1 fun e w' => ∃ os, Ord ys os ∧ PkR ys os w1 e w') := hd (by
        rcases Nat.eq_zero_or_pos ys.length with h0 | h0
        · have e0 := List.eq_nil_of_length_eq_zero h0
          subst e0
          exact pk0_any B d w1 hs
        · exact pk_any B d ys w1 hs hv h0)
      clear h
      go_wp2_with fail
      refine HP.out.mono ?_
      rintro e w2 ⟨os, ho, O, o, rfl, HO, hx⟩
      replace hs := hs.ext hx
      replace hb := ext_trans hb hx
      have HP2 := hd (spk_any B d ys os w2 hs hv ho)
      have hzo := HO.out
      clear HO hx HP
      go_wp2_with fail
      refine HP2.out.mono ?_
      rintro e w3 ⟨U, u, rfl, HU, hx⟩
      have hzu := HU.out
      replace hs := hs.ext hx
      replace hb := ext_trans hb hx
      replace hzo := hzo.ext hx
      clear HU hx HP2
      have HL := hd (fun i (hi : i < ys.length) => PK_any hv ho hi)
      have HV2 := hd (PK_valid hv ho)
      have HML := hd (PK_ml hv ho)
      obtain ⟨zs, hzs⟩ : ∃ zs, zs = PK ys os := ⟨_, rfl⟩
      have HZ := hd (show zs.length = ys.length by rw [hzs, PK_len])
      rw [← hzs] at hzo hzu HL HV2 HML
      clear hzs
      have HE := hd (eqLe_any O U ys.length o u zs w3 HZ.out.symm hzo hzu)
      clear hzu
      go_wp2_with fail
      refine HE.out.mono ?_
      rintro e w4 ⟨rfl, hx⟩
      replace hs := hs.ext hx
      replace hb := ext_trans hb hx
      replace hzo := hzo.ext hx
      have HM := hd (mostLeased_any B d ys w4 hs hv)
      clear hx HE
      go_wp2_with fail
      refine HM.out.mono ?_
      rintro e w5 ⟨rfl, hx⟩
      obtain ⟨m, hm⟩ : ∃ m, m = ML ys := ⟨_, rfl⟩
      rw [← hm] at HL HML ⊢
      have H5 := hd (And.intro (hs.ext hx) (And.intro (hzo.ext hx) (ext_trans hb hx)))
      have hmaxs := Sl.max hs
      have hcaps := Sl.cap hs
      have hmaxz := Sl.max hzo
      have hcapz := Sl.cap hzo
      rw [HZ.out] at hcapz
      unfold maxLen at hmaxs hmaxz
      clear hx hs hzo hb hm HM
      go_wp2
      go_loopw [9] (fun i wr => ∃ (k : Nat), k ≤ ys.length ∧ i = .int .i64 k ∧ Below w5.heap.size w5 wr) (fun i _ => ys.length - (intOf i).toNat)
      case atStart => exact ⟨0, by omega, rfl, Below.refl _ _⟩
      case round =>
        obtain ⟨k, hk, rfl, hb⟩ := hrel
        by_cases hlt : k < ys.length
        · obtain ⟨ad, rfl, -, -, y1, y2, y3⟩ := (H5.out.1.ext hb).at hlt
          obtain ⟨ad', rfl, -, z0, z1, z2, z3⟩ := (H5.out.2.1.ext hb).at (show k < zs.length by rw [HZ.out]; exact hlt)
          obtain ⟨he, -, hlm⟩ := HL.out k hlt
          rw [← gt_at] at y1 y2 y3 z0 z1 z2 z3
          rw [he] at z1 z2 z3
          have gm : decide ((m : Int) ≤ (gt zs k).1) = false := decide_eq_false (by omega)
          have gk : decide ((ys.length : Int) ≤ (k : Int)) = false := decide_eq_false (by omega)
          have e1 : ((gt ys k).2.1 != (gt ys k).2.1) = false := by simp
          have e2 : ((gt ys k).2.2.1 != (gt ys k).2.2.1) = false := by simp
          have e3 : ((gt ys k).2.2.2 != (gt ys k).2.2.2) = false := by simp
          have HBB := hd hb
          clear he hb
          go_wp2_with fail
          go_quiet (fail)
          go_wp2
          go_roundw
          case rel => exact ⟨k + 1, by omega, by go_num, below_drewN HBB.out _⟩
          case measure => simp [intOf]; omega
        · obtain rfl : k = ys.length := by omega
          have szl : SlL wr O o zs := H5.out.2.1.ext hb
          have V0 := vl_any O o zs wr szl
          rw [HV2.out, HZ.out] at V0
          have HVV := hd V0
          have HB := hd (ext_trans H5.out.2.2 hb)
          have gk : ((ys.length : Int) == (ys.length : Int)) = true := by simp
          have gm : ((m : Int) == (m : Int)) = true := by simp
          have HS := hd szl
          clear V0 szl hb
          go_wp2_with fail
          refine HVV.out.mono ?_
          rintro e w6 ⟨rfl, hx⟩
          have M0 := mostLeased_any O o zs w6 (HS.out.ext hx) HV2.out
          rw [HML.out, HZ.out] at M0
          have HMM := hd M0
          have HB6 := hd (ext_trans HB.out hx)
          clear M0 hx
          go_wp2_with fail
          refine HMM.out.mono ?_
          rintro e w7 ⟨rfl, hx⟩
          have HB7 := hd (ext_trans HB6.out hx)
          clear hx
          go_wp2
          go_ret
          exact ⟨rfl, HB7.out⟩
end Go.Proofs.Ytkkikpmelpjllaa
