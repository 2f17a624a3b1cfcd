/- Contracts on caches: CountPrepares of both. -/
import Derived.Test.YtmenknnncjbbpaaWC5
import Derived.Deep.DeepCutAuto
namespace Go.Proofs.Ytmenknnncjbbpaa
open Go.RowKit
theorem CPn_next {r : Int} {xs names : List Int} {k : Nat} (h : k < names.length) : CPn r xs (names.drop k) = (if hasB xs names[k] = true then 0 else 1) + CPn r (US r xs names[k]) (names.drop (k + 1)) := by
  rw [List.drop_eq_getElem_cons h]; rfl
theorem CPn_done (r : Int) (xs names : List Int) : CPn r xs (names.drop names.length) = 0 := by simp [CPn]
/-- The cache of a round. -/
structure CpS (w wr : World) (r : Int) (xs : List Int) (A : Option Addr) (c : Nat) : Prop where
  bx : Cx 31 wr w.heap.size (.int .i64 r) (.slice A xs.length c)
  sx : SlI wr A c xs
  ne : ∀ j, rowOf A xs.length = some j → j ≠ w.heap.size
  be : Below w.heap.size w wr
theorem CpS.ext {w wr w' : World} {r : Int} {xs : List Int} {A : Option Addr} {c : Nat} (h : CpS w wr r xs A c) (hx : Below wr.heap.size wr w') : CpS w w' r xs A c := ⟨h.bx.ext hx, h.sx.ext hx, h.ne, ext_trans h.be hx⟩
theorem CpS.put {w wr w' : World} {r : Int} {xs zs : List Int} {A P : Option Addr} {c p : Nat} (h : CpS w wr r xs A c) (hx : Below wr.heap.size wr w') (rP : RwI w' wr.heap.size P p zs) : CpS w ((w'.setCell ⟨w.heap.size, 0, none⟩ (.int .i64 r)).setCell ⟨w.heap.size, 1, none⟩ (.slice P zs.length p)) r zs P p := by
  have hl := h.bx.lt
  have hne : ∀ j, rowOf P zs.length = some j → j ≠ w.heap.size := fun j hj => by have := (Rw.row rP j hj).1; omega
  exact ⟨(h.bx.ext hx).put2, SlI.cput2 rP.sl hne, hne, cset2_old (ext_trans h.be hx) (Nat.le_refl _)⟩
theorem cpS_new {w : World} {r : Int} {xs : List Int} {A : Option Addr} {c : Nat} (h : SlI w A c xs) : CpS w (w.alloc (.cells #[.int .i64 r, .slice A xs.length c] 31)) r xs A c :=
  ⟨Cx.new w _ _, Sl.alloc h _, fun j hj => by have := Sl.row h j hj; omega, ext_alloc (Below.refl _ _) _⟩
set_option maxRecDepth 100000 in
set_option maxHeartbeats 4000000 in
theorem cp_any (r : Int) (A : Option Addr) (c : Nat) (xs : List Int) (L : Option Addr) (l : Nat) (names : List Int) (w : World) (h : SlI w A c xs) (hn : SlI w L l names) :
    Calls Try.prog 13 #[.agg #[.int .i64 r, .slice A xs.length c], .slice L names.length l] w fun e w' => e = .returned (.int .i64 (CP r xs names)) ∧ Below w.heap.size w w' := by
  have hmaxn := hn.max
  have hcapn := hn.cap
  unfold maxLen at hmaxn
  obtain ⟨W0, hW0⟩ : ∃ W0, W0 = w.alloc (.cells #[.int .i64 r, .slice A xs.length c] 31) := ⟨_, rfl⟩
  have S := cpS_new (r := r) h
  rw [← hW0] at S
  have sn := hn.ext S.be
  have b0 := S.bx.c0
  have b1 := S.bx.c1
  have HN0 := hd hn
  clear h hn
  cases hv : VCa r xs with
  | false =>
    have HR := hd (CP_no1 (names := names) hv)
    go_enter Try.func13, Try.ntmps13
    go_wp2_with fail
    rw [← hW0]
    clear hW0
    refine (vca_any _ _ _ _ _ S.sx).mono ?_
    rintro e w1 ⟨rfl, hx⟩
    rw [hv]
    go_wp2
    go_ret
    exact ⟨by rw [HR.out]; rfl, ext_trans S.be hx⟩
  | true =>
    have HV := hd (validC_iff.1 hv)
    by_cases h2 : names.length ≤ 16
    · have g2 : decide ((16 : Int) < (names.length : Int)) = false := decide_eq_false (by omega)
      have g2' : decide (16 < names.length) = false := decide_eq_false (by omega)
      cases h3 : allL names 0 9 with
      | false =>
        have HR := hd (CP_no3 (r := r) (xs := xs) h3)
        go_enter Try.func13, Try.ntmps13
        go_wp2_with fail
        rw [← hW0]
        clear hW0
        refine (vca_any _ _ _ _ _ S.sx).mono ?_
        rintro e w1 ⟨rfl, hx⟩
        rw [hv]
        have sn1 := sn.ext hx
        go_wp2_with fail
        refine (allIn_any L l names 0 9 _ sn1).mono ?_
        rintro e w2 ⟨rfl, hx2⟩
        rw [h3]
        go_wp2
        go_ret
        exact ⟨by rw [HR.out]; rfl, ext_trans (ext_trans S.be hx) hx2⟩
      | true =>
        have HR := hd (CP_ok hv h2 h3)
        have HQ := hd h3
        go_enter Try.func13, Try.ntmps13
        go_wp2_with fail
        rw [← hW0]
        clear hW0
        refine (vca_any _ _ _ _ _ S.sx).mono ?_
        rintro e w1 ⟨rfl, hx⟩
        rw [hv]
        have sn1 := sn.ext hx
        replace S := S.ext hx
        clear hx b0 b1 hv sn
        go_wp2_with fail
        refine (allIn_any L l names 0 9 _ sn1).mono ?_
        rintro e w2 ⟨rfl, hx⟩
        rw [h3]
        replace S := S.ext hx
        clear hx sn1 h3
        go_wp2_with fail
        go_loopw [5, 25] (fun v i wr => ∃ (k : Nat) (n : Int) (zs : List Int) (A : Option Addr) (c : Nat), k ≤ names.length ∧ i = .int .i64 k ∧ v = .int .i64 n ∧ 0 ≤ n ∧ n ≤ k ∧ Hid (CPn r xs names = n + CPn r zs (names.drop k)) ∧ Hid (ValidC r zs) ∧ CpS w wr r zs A c) (fun _ i _ => names.length - (intOf i).toNat)
        case atStart => exact ⟨0, 0, xs, A, c, Nat.zero_le _, rfl, rfl, by omega, by omega, hd (by simp), HV, S⟩
        case round =>
          clear S HV g2 g2'
          obtain ⟨k, n, zs, A, c, hk, rfl, rfl, n0, n1, HC, HV, S⟩ := hrel
          have b0 := S.bx.c0
          have b1 := S.bx.c1
          by_cases hlt : k < names.length
          · have sn := SlI.ext HN0.out S.be
            obtain ⟨ad, rfl, -, -⟩ := sn.at hlt
            have a0 := SlI.atC sn hlt
            have hq := allL_at HQ.out hlt
            have HV' := hd (US_valid HV.out (inB_true hq.1 hq.2))
            have hl6 := US_len HV.out names[k]
            have HC' := hd (HC.out.trans (by rw [CPn_next hlt]))
            obtain ⟨nm, hnm⟩ : ∃ nm, nm = names[k] := ⟨_, rfl⟩
            rw [← hnm] at a0 HV' HC' hl6
            have HNM := hd hnm
            clear hnm hq
            obtain ⟨us, hus⟩ : ∃ us, us = US r zs nm := ⟨_, rfl⟩
            have CU := hd (fun W (s : SlI W A c zs) => use_any r A c zs nm W s HV.out)
            rw [← hus] at HV' HC' CU hl6
            clear hus HC
            cases hh : hasB zs nm with
            | true =>
              rw [hh] at CU HC'
              have HC2 := hd (show CPn r xs names = n + CPn r us (names.drop (k + 1)) by have := HC'.out; rw [if_pos rfl] at this; omega)
              clear hh
              go_wp2_with fail
              refine (CU.out _ S.sx).mono ?_
              rintro e w5 ⟨P, p, rfl, rP, hx⟩
              clear a0 b0 b1
              go_upto_region 8 with fail
              obtain ⟨W5, hW5⟩ : ∃ W5, W5 = w5.alloc (.cells #[.int .i64 r, .slice P us.length p] 31) := ⟨_, rfl⟩
              rw [← hW5]
              have hxa : Below w5.heap.size w5 W5 := by rw [hW5]; exact ext_alloc (Below.refl _ _) _
              have bn : Cx 31 W5 w5.heap.size (.int .i64 r) (.slice P us.length p) := by rw [hW5]; exact Cx.new _ _ _
              have bx5 := S.bx.ext (ext_trans hx hxa)
              have c0 := bx5.c0; have c1 := bx5.c1; have y0 := bx5.free 0; have y1 := bx5.free 1; have d0 := bn.c0; have d1 := bn.c1
              have HS := hd (S.put (ext_trans hx hxa) (rP.ext hxa))
              clear S hx rP hxa bx5 bn hW5
              go_wp2
              go_roundw
              case rel => exact ⟨k + 1, n, us, P, p, by omega, by go_num, rfl, n0, by omega, HC2, HV', HS.out⟩
              case measure => simp [intOf]; omega
            | false =>
              rw [hh] at CU HC'
              have HC2 := hd (show CPn r xs names = (n + 1) + CPn r us (names.drop (k + 1)) by have := HC'.out; rw [if_neg (by simp)] at this; omega)
              clear hh
              go_wp2_with fail
              refine (CU.out _ S.sx).mono ?_
              rintro e w5 ⟨P, p, rfl, rP, hx⟩
              clear a0 b0 b1
              go_upto_region 8 with fail
              obtain ⟨W5, hW5⟩ : ∃ W5, W5 = w5.alloc (.cells #[.int .i64 r, .slice P us.length p] 31) := ⟨_, rfl⟩
              rw [← hW5]
              have hxa : Below w5.heap.size w5 W5 := by rw [hW5]; exact ext_alloc (Below.refl _ _) _
              have bn : Cx 31 W5 w5.heap.size (.int .i64 r) (.slice P us.length p) := by rw [hW5]; exact Cx.new _ _ _
              have bx5 := S.bx.ext (ext_trans hx hxa)
              have c0 := bx5.c0; have c1 := bx5.c1; have y0 := bx5.free 0; have y1 := bx5.free 1; have d0 := bn.c0; have d1 := bn.c1
              have HS := hd (S.put (ext_trans hx hxa) (rP.ext hxa))
              clear S hx rP hxa bx5 bn hW5
              go_wp2
              go_roundw
              case rel => exact ⟨k + 1, n + 1, us, P, p, by omega, by go_num, rfl, by omega, by omega, HC2, HV', HS.out⟩
              case measure => simp [intOf]; omega
          · obtain rfl : k = names.length := by omega
            have HF := hd (show CP r xs names = n by rw [HR.out, HC.out, CPn_done]; omega)
            go_wp2
            go_ret
            exact ⟨by rw [HF.out]; rfl, S.be⟩
    · have g2 : decide ((16 : Int) < (names.length : Int)) = true := decide_eq_true (by omega)
      have g2' : decide (16 < names.length) = true := decide_eq_true (by omega)
      have HR := hd (CP_no2 (r := r) (xs := xs) h2)
      go_enter Try.func13, Try.ntmps13
      go_wp2_with fail
      rw [← hW0]
      clear hW0
      refine (vca_any _ _ _ _ _ S.sx).mono ?_
      rintro e w1 ⟨rfl, hx⟩
      rw [hv]
      go_wp2
      go_ret
      exact ⟨by rw [HR.out]; rfl, ext_trans S.be hx⟩
set_option maxRecDepth 100000 in
set_option maxHeartbeats 4000000 in
theorem scp_any (r : Int) (A : Option Addr) (c : Nat) (xs : List Int) (L : Option Addr) (l : Nat) (names : List Int) (w : World) (h : SlI w A c xs) (hn : SlI w L l names) :
    Calls Try.prog 14 #[.agg #[.int .i64 r, .slice A xs.length c], .slice L names.length l] w fun e w' => e = .returned (.int .i64 (CP r xs names)) ∧ Below w.heap.size w w' := by
  have hmaxn := hn.max
  have hcapn := hn.cap
  unfold maxLen at hmaxn
  obtain ⟨W0, hW0⟩ : ∃ W0, W0 = w.alloc (.cells #[.int .i64 r, .slice A xs.length c] 31) := ⟨_, rfl⟩
  have S := cpS_new (r := r) h
  rw [← hW0] at S
  have sn := hn.ext S.be
  have b0 := S.bx.c0
  have b1 := S.bx.c1
  have HN0 := hd hn
  clear h hn
  cases hv : VCa r xs with
  | false =>
    have HR := hd (CP_no1 (names := names) hv)
    go_enter Try.func14, Try.ntmps14
    go_wp2_with fail
    rw [← hW0]
    clear hW0
    refine (svca_any _ _ _ _ _ S.sx).mono ?_
    rintro e w1 ⟨rfl, hx⟩
    rw [hv]
    go_wp2
    go_ret
    exact ⟨by rw [HR.out]; rfl, ext_trans S.be hx⟩
  | true =>
    have HV := hd (validC_iff.1 hv)
    by_cases h2 : names.length ≤ 16
    · have g2 : decide ((16 : Int) < (names.length : Int)) = false := decide_eq_false (by omega)
      have g2' : decide (16 < names.length) = false := decide_eq_false (by omega)
      cases h3 : allL names 0 9 with
      | false =>
        have HR := hd (CP_no3 (r := r) (xs := xs) h3)
        go_enter Try.func14, Try.ntmps14
        go_wp2_with fail
        rw [← hW0]
        clear hW0
        refine (svca_any _ _ _ _ _ S.sx).mono ?_
        rintro e w1 ⟨rfl, hx⟩
        rw [hv]
        have sn1 := sn.ext hx
        go_wp2_with fail
        refine (sAllIn_any L l names 0 9 _ sn1).mono ?_
        rintro e w2 ⟨rfl, rfl⟩
        rw [h3]
        go_wp2
        go_ret
        exact ⟨by rw [HR.out]; rfl, ext_trans S.be hx⟩
      | true =>
        have HR := hd (CP_ok hv h2 h3)
        have HQ := hd h3
        go_enter Try.func14, Try.ntmps14
        go_wp2_with fail
        rw [← hW0]
        clear hW0
        refine (svca_any _ _ _ _ _ S.sx).mono ?_
        rintro e w1 ⟨rfl, hx⟩
        rw [hv]
        have sn1 := sn.ext hx
        replace S := S.ext hx
        clear hx b0 b1 hv sn
        go_wp2_with fail
        refine (sAllIn_any L l names 0 9 _ sn1).mono ?_
        rintro e w2 ⟨rfl, rfl⟩
        rw [h3]
        clear sn1 h3
        go_wp2_with fail
        go_loopw [5, 6] (fun v i wr => ∃ (k : Nat) (n : Int) (zs : List Int) (A : Option Addr) (c : Nat), k ≤ names.length ∧ i = .int .i64 k ∧ v = .int .i64 n ∧ 0 ≤ n ∧ n ≤ k ∧ Hid (CPn r xs names = n + CPn r zs (names.drop k)) ∧ Hid (ValidC r zs) ∧ CpS w wr r zs A c) (fun _ i _ => names.length - (intOf i).toNat)
        case atStart => exact ⟨0, 0, xs, A, c, Nat.zero_le _, rfl, rfl, by omega, by omega, hd (by simp), HV, S⟩
        case round =>
          clear S HV g2 g2'
          obtain ⟨k, n, zs, A, c, hk, rfl, rfl, n0, n1, HC, HV, S⟩ := hrel
          have b0 := S.bx.c0
          have b1 := S.bx.c1
          by_cases hlt : k < names.length
          · have sn := SlI.ext HN0.out S.be
            obtain ⟨ad, rfl, -, -⟩ := sn.at hlt
            have a0 := SlI.atC sn hlt
            have hq := allL_at HQ.out hlt
            have HV' := hd (US_valid HV.out (inB_true hq.1 hq.2))
            have hl6 := US_len HV.out names[k]
            have HC' := hd (HC.out.trans (by rw [CPn_next hlt]))
            obtain ⟨nm, hnm⟩ : ∃ nm, nm = names[k] := ⟨_, rfl⟩
            rw [← hnm] at a0 HV' HC' hl6
            have HNM := hd hnm
            clear hnm hq
            obtain ⟨us, hus⟩ : ∃ us, us = US r zs nm := ⟨_, rfl⟩
            have CU := hd (fun W (s : SlI W A c zs) => suse_any r A c zs nm W s HV.out)
            rw [← hus] at HV' HC' CU hl6
            clear hus HC
            obtain ⟨b, hbb⟩ : ∃ b, b = hasB zs nm := ⟨_, rfl⟩
            have IN := hd (fun W (s : SlI W A c zs) => isIn_any A _ c zs nm W s rfl)
            rw [← hbb] at IN HC'
            clear hbb
            have HS0 := hd S
            obtain ⟨n', hn'⟩ : ∃ n', n' = n + (if (!b) = true then 1 else 0) := ⟨_, rfl⟩
            have hn0 : 0 ≤ n' := by rw [hn']; split <;> omega
            have hn1 : n' ≤ k + 1 := by rw [hn']; split <;> omega
            have HC2 := hd (show CPn r xs names = n' + CPn r us (names.drop (k + 1)) by have := HC'.out; rw [hn', this]; cases b <;> simp <;> omega)
            have HN' := hd hn'
            clear hn'
            go_wp2_with fail
            go_cut [5] (fun s5 wx => s5 = .int .i64 n' ∧ CpS w wx r zs A c)
            case first =>
              cases b
              all_goals (
                go_quiet (first | (go_at_call 25; exact Calls.quiet_of_same (IN.out _ HS0.out.sx)) | (go_at_call 27; exact Calls.quiet_of_same (toInt_any _ _)))
                go_wp2
                go_meet
                exact ⟨by rw [HN'.out]; simp, HS0.out.ext (below_drewN (Below.refl _ _) _)⟩)
            case rest =>
              obtain ⟨rfl, S2⟩ := hcut
              clear S HS0 IN b0 b1 a0
              have S3 : CpS w wc.drew r zs A c := S2.ext (ext_drew (Below.refl _ _))
              have b0 := S2.bx.c0
              have b1 := S2.bx.c1
              have a0 := SlI.atC (SlI.ext HN0.out S2.be) hlt
              rw [← HNM.out] at a0
              have CU2 := hd (CU.out _ S3.sx)
              have HS := hd S3
              clear CU S2 S3
              go_wp2_with fail
              go_region_with (first | ((with_reducible refine CU2.out.mono ?_); rintro e w5 ⟨P, p, rfl, rP, hx⟩; have bx5 := HS.out.bx.ext hx; have z0 := bx5.c0; have z1 := bx5.c1; have y0 := bx5.free 0; have y1 := bx5.free 1; have FIN := hd (HS.out.put hx rP); clear bx5 hx rP) | fail)
              all_goals (
                go_wp2
                go_roundw
                case rel => exact ⟨k + 1, n', us, P, p, by omega, by go_num, rfl, hn0, hn1, HC2, HV', FIN.out⟩
                case measure => simp [intOf]; omega)
          · obtain rfl : k = names.length := by omega
            have HF := hd (show CP r xs names = n by rw [HR.out, HC.out, CPn_done]; omega)
            go_wp2
            go_ret
            exact ⟨by rw [HF.out]; rfl, S.be⟩
    · have g2 : decide ((16 : Int) < (names.length : Int)) = true := decide_eq_true (by omega)
      have g2' : decide (16 < names.length) = true := decide_eq_true (by omega)
      have HR := hd (CP_no2 (r := r) (xs := xs) h2)
      go_enter Try.func14, Try.ntmps14
      go_wp2_with fail
      rw [← hW0]
      clear hW0
      refine (svca_any _ _ _ _ _ S.sx).mono ?_
      rintro e w1 ⟨rfl, hx⟩
      rw [hv]
      go_wp2
      go_ret
      exact ⟨by rw [HR.out]; rfl, ext_trans S.be hx⟩
end Go.Proofs.Ytmenknnncjbbpaa
