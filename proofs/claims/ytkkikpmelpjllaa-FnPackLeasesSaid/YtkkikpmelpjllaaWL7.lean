/- Contracts of leases: the reference's PackLeases. -/
import Derived.Test.YtkkikpmelpjllaaWL4
import Derived.Test.YtkkikpmelpjllaaWL6
import Derived.Test.YtkkikpmelpjllaaPAt
import Derived.Test.YtkkikpmelpjllaaPLm
namespace Go.Proofs.Ytkkikpmelpjllaa
open Go.RowKit
/-- What PackLeases hands back. -/
def PkR (xs : List Le) (os : List Nat) (w : World) (e : Ending) (w' : World) : Prop :=
  ∃ (O : Option Addr) (o : Nat), e = .returned (.tuple #[.slice O xs.length o, .bool true]) ∧ Hid (SlL w' O o (PK xs os)) ∧ Below w.heap.size w w'
theorem mem_take_no {os : List Nat} {k i : Nat} (h : k < os.length) (h1 : i ∉ os.take k) (h2 : os[k] ≠ i) : i ∉ os.take (k + 1) := by
  rw [List.take_succ_eq_append_getElem h, List.mem_append, List.mem_singleton]
  rintro (h' | h')
  · exact h1 h'
  · exact h2 h'.symm
theorem ni_step {os : List Nat} {k i : Nat} (h : k < os.length) (e : os[k] = i) : ci (ni (os.take k)) ++ ci [(i : Int)] = ci (ni (os.take (k + 1))) := by
  rw [List.take_succ_eq_append_getElem h, ni_append, ci_append, e]; rfl
set_option maxHeartbeats 400000 in
theorem isInN_any (A : Option Addr) (n c : Nat) (os : List Nat) (i : Nat) (w : World) (h : SlI w A c (ni os)) (hn : n = os.length) :
    Calls Try.prog 21 #[.slice A n c, .int .i64 (i : Int)] w fun e w' => e = .returned (.bool (decide (i ∈ os))) ∧ w' = w := by
  subst hn
  have hmax := h.max
  have hcap := h.cap
  rw [ni_len] at hcap
  unfold maxLen at hmax
  go_enter Try.func21, Try.ntmps21
  go_wp2
  go_loop [5] (fun j => ∃ (k : Nat), k ≤ os.length ∧ j = .int .i64 k ∧ Hid (i ∉ os.take k)) (fun j => os.length - (intOf j).toNat)
  case atStart => exact ⟨0, Nat.zero_le _, rfl, hd (by simp)⟩
  case round =>
    obtain ⟨k, hk, rfl, HV⟩ := hrel
    by_cases hlt : k < os.length
    · obtain ⟨ad, rfl, hbl, hc0⟩ := h.atN hlt
      by_cases he : os[k] = i
      · have g : ((os[k] : Int) == (i : Int)) = true := beq_iff_eq.2 (by rw [he])
        have g' : (os[k] == i) = true := beq_iff_eq.2 he
        have HR := hd (show decide (i ∈ os) = true from decide_eq_true (by rw [← he]; exact List.getElem_mem hlt))
        clear he
        go_wp2
        go_ret
        exact ⟨by rw [HR.out]; rfl, rfl⟩
      · have g : ((os[k] : Int) == (i : Int)) = false := beq_eq_false_iff_ne.2 (by omega)
        have g' : (os[k] == i) = false := beq_eq_false_iff_ne.2 he
        have HV' := hd (mem_take_no hlt HV.out he)
        clear he
        go_wp2
        go_round
        case rel => exact ⟨k + 1, by omega, by go_num, HV'⟩
        case measure => simp [intOf]; omega
    · obtain rfl : k = os.length := by omega
      have HR := hd (show decide (i ∈ os) = false from decide_eq_false (by have := HV.out; rwa [List.take_length] at this))
      go_wp2
      go_ret
      exact ⟨by rw [HR.out]; rfl, rfl⟩
/-- A slice value's length. -/
def slLen : Value → Nat | .slice _ n _ => n | _ => 0
theorem pk_set {xs : List Le} {os : List Nat} (ho : Ord xs os) {k i n : Nat} (hk : k < os.length) (hi : os[k] = i) (hil : i < (pk xs os k).length) (hn : n = lfr (pk xs os k) (os.take k) (gt xs i).2.2.1 (gt xs i).2.2.2) :
    (pk xs os k).set i ((n : Int), ((pk xs os k)[i]).2) = pk xs os (k + 1) := by
  rw [pk_step hk hi, ← hn]
  have := pk_rest ho k (by omega) i
  rw [gt_at hil] at this
  rw [this]
set_option maxRecDepth 100000 in
set_option maxHeartbeats 1000000 in
theorem spkNo_any (L : Option Addr) (l : Nat) (xs : List Le) (w : World) (h : SlL w L l xs) (hv : VL xs = false) :
    Calls Try.prog 6 #[.slice L xs.length l] w fun e w' => e = .returned (.tuple #[.slice none 0 0, .bool false]) ∧ Below w.heap.size w w' := by
  have HV := hd (svl_any L l xs w h)
  rw [hv] at HV
  clear h hv
  go_enter Try.func6, Try.ntmps6
  go_wp2_with fail
  refine HV.out.mono ?_
  rintro e w1 ⟨rfl, hx⟩
  have HX := hd hx
  clear hx
  go_wp2
  go_ret2
  exact ⟨rfl, HX.out⟩
set_option maxRecDepth 100000 in
set_option maxHeartbeats 4000000 in
theorem spk_any (L : Option Addr) (l : Nat) (xs : List Le) (os : List Nat) (w : World) (h : SlL w L l xs) (hv : VL xs = true) (ho : Ord xs os) :
    Calls Try.prog 6 #[.slice L xs.length l] w (PkR xs os w) := by
  have h12 := vl_len hv
  have HV := hd (svl_any L l xs w h)
  rw [hv] at HV
  have hmaxl := Sl.max h
  have hcapl := Sl.cap h
  unfold maxLen at hmaxl
  have H := hd h
  have HO := hd ho
  have hol := ho.len
  clear h hv ho
  go_enter Try.func6, Try.ntmps6
  go_wp2_with fail
  refine HV.out.mono ?_
  rintro e w1 ⟨rfl, hx⟩
  have HX1 := hd hx
  have ho := hd (own_made w1 30 4 [] 0 rfl (by decide))
  have hs := hd (Sl.alloc (H.out.ext hx) (.cells #[] 30))
  clear hx
  go_wp2_with (at_builtin; refine wpList_apps eltLe _ _ ho.out hs.out (cle_one _) (by omega) (by omega) (by simp) (by rfl) (by rfl) (by rfl) (by rfl) ?_; intro v' w2 hown2 hg2; obtain ⟨A2, c2, rfl, hr⟩ := rwL_of_own hown2 (by simp : [] ++ cle xs = cle xs) (by omega); have HR := hd hr; have HX2 := hd ((ext_alloc HX1.out _).grown hg2 (ext_alloc HX1.out _).size (by intro k hk; simp [Value.ownBlock] at hk; have := HX1.out.size; omega)); clear hr hown2 hg2)
  have HRB := hd (fun g hg => Rw.row HR.out g hg)
  have hz2 : w.heap.size ≤ w2.heap.size := HX2.out.size
  have HS2 := hd (And.intro (own_made w2 3 1 [] 0 rfl (by decide)) (And.intro (Rw.ext HR.out (ext_alloc (Below.refl _ _) (.cells #[] 3))) (ext_alloc HX2.out (.cells #[] 3))))
  have HW := hd (HX1.out.size)
  clear ho hs HX1
  go_loopw [5, 6, 7, 8] (fun d _ _ _ wr => ∃ (k : Nat), k ≤ xs.length ∧ wr.ownsRow w2.heap.size 3 1 d k (ci (ni (os.take k))) ∧ Hid (Rw wr w1.heap.size 30 4 A2 xs.length c2 (cle (pk xs os k))) ∧ Hid (Below w.heap.size w wr) ∧ w2.heap.size ≤ wr.heap.size) (fun d _ _ _ _ => xs.length - (slLen d))
  case atStart => exact ⟨0, by omega, HS2.out.1, HS2.out.2.1, HS2.out.2.2, by simp⟩
  case round =>
    clear HS2
    obtain ⟨k, hk, hown, HRW, HB, hzr⟩ := hrel
    obtain ⟨D, dc, rfl, hsd, -⟩ := Sl.of_own hown
    have HO1 := hd hown
    have HD := hd hsd
    have hdc := hsd.cap
    have hdm := hsd.max
    unfold maxLen at hdm
    clear hown hsd
    obtain ⟨wb, hwb⟩ : ∃ x, x = wr := ⟨_, rfl⟩
    rw [← hwb] at HO1 HD HRW HB hzr ⊢
    clear hwb
    by_cases hlt : k < xs.length
    · have hko : k < os.length := by omega
      have HTL := hd (show k = (os.take k).length by rw [List.length_take]; omega)
      go_wp2_with fail
      go_loopw [6, 7] (fun a i wr => ∃ (at_ : Int) (j : Nat), j ≤ xs.length ∧ i = .int .i64 j ∧ a = .int .i64 at_ ∧ Hid (AtU xs (os.take k) j at_) ∧ Below wb.heap.size wb wr) (fun _ i _ => xs.length - (intOf i).toNat)
      case atStart => exact ⟨-1, 0, by omega, rfl, rfl, at_start _ _, Below.refl _ _⟩
      case round =>
        obtain ⟨at_, j, hj, rfl, rfl, HA, hb⟩ := hrel
        by_cases hjl : j < xs.length
        · have HBB := hd hb
          have sd : SlI wr D dc (ni (os.take k)) := by
            have := HD.out.ext hb
            unfold SlI
            rw [ni_len, ← HTL.out]
            exact this
          have hal := at_lt HA.out
          obtain ⟨ad, rfl, -, -, -, hj2, -⟩ := (H.out.ext (ext_trans HB.out hb)).at hjl
          rw [← gt_at hjl] at hj2
          have HIN := hd (fun W (s : SlI W D dc (ni (os.take k))) => isInN_any D k dc (os.take k) j W s HTL.out)
          by_cases hin : j ∈ os.take k
          · have HA' := hd (at_in HA.out hin)
            rw [decide_eq_true hin] at HIN
            clear hin hb
            go_wp2_with fail
            go_quiet ((go_at_call 21; exact Calls.quiet_of_same (HIN.out _ sd)))
            go_wp2
            go_roundw
            case rel => exact ⟨at_, j + 1, by omega, by go_num, rfl, HA', below_drewN HBB.out _⟩
            case measure => simp [intOf]; omega
          · rw [decide_eq_false hin] at HIN
            by_cases ha : at_ < 0
            · have HA' := hd (at_first HA.out hin ha)
              have ga : decide (at_ < 0) = true := decide_eq_true ha
              clear hin hb hal
              go_wp2_with fail
              go_quiet ((go_at_call 21; exact Calls.quiet_of_same (HIN.out _ sd)))
              go_wp2
              go_roundw
              case rel => exact ⟨j, j + 1, by omega, by go_num, by go_num, HA', below_drewN HBB.out _⟩
              case measure => simp [intOf]; omega
            · obtain ⟨b, rfl⟩ : ∃ b : Nat, at_ = (b : Int) := ⟨at_.toNat, by omega⟩
              have hbl : b < xs.length := by omega
              have ga : decide ((b : Int) < 0) = false := decide_eq_false ha
              obtain ⟨_, e1, -, -, -, hb2, -⟩ := (H.out.ext (ext_trans HB.out hb)).at hbl
              injection e1 with e1
              subst e1
              rw [← gt_at hbl] at hb2
              have hbz : (b : Int) < (xs.length : Int) := by omega
              by_cases hl : (gt xs j).2.2.1 < (gt xs b).2.2.1
              · have HA' := hd (at_less HA.out hin hl)
                have gl : decide ((gt xs j).2.2.1 < (gt xs b).2.2.1) = true := decide_eq_true hl
                clear hin hb hal ha
                go_wp2_with fail
                go_quiet ((go_at_call 21; exact Calls.quiet_of_same (HIN.out _ sd)))
                go_wp2
                go_roundw
                case rel => exact ⟨j, j + 1, by omega, by go_num, by go_num, HA', below_drewN HBB.out _⟩
                case measure => simp [intOf]; omega
              · have HA' := hd (at_more HA.out hl)
                have gl : decide ((gt xs j).2.2.1 < (gt xs b).2.2.1) = false := decide_eq_false hl
                clear hin hb hal ha
                go_wp2_with fail
                go_quiet ((go_at_call 21; exact Calls.quiet_of_same (HIN.out _ sd)))
                go_wp2
                go_roundw
                case rel => exact ⟨b, j + 1, by omega, by go_num, by go_num, HA', below_drewN HBB.out _⟩
                case measure => simp [intOf]; omega
        · obtain rfl : j = xs.length := by omega
          have hat := at_end HO.out hko HA.out
          subst hat
          have hil := HO.out.lt' hko
          obtain ⟨i, hi⟩ : ∃ i, i = os[k] := ⟨_, rfl⟩
          rw [← hi] at hil ⊢
          have HI := hd hi
          have HBB := hd hb
          have hiz : (i : Int) < (xs.length : Int) := by omega
          clear hi hb
          obtain ⟨wc, hwc⟩ : ∃ x, x = wr := ⟨_, rfl⟩
          rw [← hwc] at HBB ⊢
          clear hwc
          go_wp2_with fail
          go_loopw [8] (fun c wr => ∃ (n : Nat), c = .int .i64 (n : Int) ∧ Hid (n ≤ lfr (pk xs os k) (os.take k) (gt xs i).2.2.1 (gt xs i).2.2.2) ∧ n ≤ 12 ∧ Below wc.heap.size wc wr) (fun c _ => 13 - (intOf c).toNat)
          case atStart => exact ⟨0, rfl, Nat.zero_le _, by omega, Below.refl _ _⟩
          case round =>
            obtain ⟨n, rfl, HN, hn, hb⟩ := hrel
            have HBC := hd (ext_trans HBB.out hb)
            have HBN := hd hb
            clear hb
            have hb := ext_trans HB.out HBC.out
            obtain ⟨ad, rfl, -, i0, i1, i2, i3⟩ := (H.out.ext hb).at hil
            rw [← gt_at hil] at i0 i1 i2 i3
            have so : SlL wr A2 c2 (pk xs os k) := by
              have := (Rw.ext HRW.out HBC.out).1
              unfold SlL
              rw [pk_len]
              exact this
            have sd : SlI wr D dc (ni (os.take k)) := by
              have := HD.out.ext HBC.out
              unfold SlI
              rw [ni_len, ← HTL.out]
              exact this
            have HU0 := used_any D k dc (os.take k) A2 c2 (n : Int) (gt xs i) (pk xs os k) wr HTL.out sd (hd fun p hp => by rw [pk_len]; exact HO.out.lt (List.mem_of_mem_take hp)) so
            rw [pk_len] at HU0
            have HU := hd HU0
            clear HU0 so sd hb
            cases htk : tkB (pk xs os k) (os.take k) (n : Int) (gt xs i).2.2.1 (gt xs i).2.2.2 with
            | true =>
              have HN' := hd (lfr_more HN.out htk)
              have hn' : n + 1 ≤ 12 := by
                have h1 := HN'.out
                have h2 := lfr_len (pk xs os k) (os.take k) (gt xs i).2.2.1 (gt xs i).2.2.2
                rw [List.length_take] at h2
                omega
              rw [htk] at HU
              clear htk
              go_wp2_with (go_at_call 22; refine HU.out.mono ?_; rintro e w7 ⟨rfl, hx⟩)
              go_roundw
              case rel => exact ⟨n + 1, by go_num, HN', hn', ext_trans HBN.out hx⟩
              case measure => simp [intOf]; omega
            | false =>
              have HN' := hd (lfr_end HN.out htk)
              rw [htk] at HU
              clear htk
              go_wp2_with fail
              refine HU.out.mono ?_
              rintro e w7 ⟨rfl, hx⟩
              have HBD := hd (ext_trans HBC.out hx)
              clear hx i0 i1 i2 i3
              have hr7 : RwL w7 w1.heap.size A2 c2 (pk xs os k) := by
                have := Rw.ext HRW.out HBD.out
                unfold RwL
                rw [pk_len]
                exact this
              have hil' : i < (pk xs os k).length := by rw [pk_len]; exact hil
              obtain ⟨g, e, -, hgl, ⟨z0, p0⟩, f0, hp⟩ := hr7.put hil'
              subst e
              have hg2 : g < w2.heap.size := (HRB.out g (rowOf_some (by omega))).2
              have hg1 : w1.heap.size ≤ g := (HRB.out g (rowOf_some (by omega))).1
              obtain ⟨q1, q2⟩ := hp n
              have hown8 := own_far (own_ext HO1.out HBD.out) q2 hg2
              have HP := hd (And.intro q1 q2)
              have hz7 := HBD.out.size
              have hzb := HB.out.size
              have hzw := HW.out
              have hzo : w2.heap.size ≤ w7.heap.size := by omega
              clear hp q1 q2 hr7
              go_wp2_with (at_builtin; refine wpList_appH eltI (.tmp 64) (.tmp 66) w7.heap.size (setCell_size _ _ _) (news := ci [(i : Int)]) (m := 1) hown8 rfl (ci_one _) (by omega) (by omega) (by rw [setCell_size]; exact hzo) rfl rfl rfl rfl ?_; intro v' w8 hown9 hg9; obtain ⟨D', d', e', -, -⟩ := Sl.of_own hown9; subst e')
              go_roundw
              case rel =>
                refine ⟨k + 1, by omega, by rw [← ni_step hko HI.out.symm]; exact hown9, ?_, ?_, Nat.le_trans (by rw [setCell_size]; exact hzo) hg9.size⟩
                · have r1 := HP.out.1
                  rw [pk_set HO.out hko HI.out.symm hil' HN'.out] at r1
                  unfold RwL at r1
                  rw [pk_len] at r1
                  exact Rw.apart r1 hg9 (fun g' hg' e => by
                    have h1 := own_ge hown8 g' e
                    have h2 := (HRB.out g' hg').2
                    omega)
                · exact ((ext_trans HB.out HBD.out).grown HP.out.2 (by omega) (fun j hj => by injection hj with hj; omega)).grown hg9 (by rw [setCell_size]; omega) (fun j hj => by have := own_ge hown8 j hj; omega)
              case measure => simp [slLen]; omega
    · obtain rfl : k = xs.length := by omega
      have HE := hd (show SlL wb A2 c2 (PK xs os) by
        have := HRW.out.1
        unfold SlL
        rw [PK_len]
        exact this)
      go_wp2_with fail
      go_ret2
      exact ⟨A2, c2, rfl, HE.out, HB.out⟩
end Go.Proofs.Ytkkikpmelpjllaa
