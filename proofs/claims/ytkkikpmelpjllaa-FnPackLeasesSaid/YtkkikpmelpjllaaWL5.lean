/- Contracts of leases: the sorting of places. -/
import Derived.Test.YtkkikpmelpjllaaWL2
import Derived.Test.YtkkikpmelpjllaaPSo
import Derived.BigRegion
namespace Go.Proofs.Ytkkikpmelpjllaa
open Go.RowKit
theorem add0 (g j : Nat) : (⟨g, 0, none⟩ : Addr).add j = ⟨g, j, none⟩ := by unfold Addr.add; split <;> simp_all
/-- New places: a cell, and a cell stored. -/
theorem RwI.cellN {w : World} {B g c j x : Nat} {os : List Nat} (h : RwI w B (some ⟨g, 0, none⟩) c (ni os)) (hx : os[j]? = some x) : w.cell? ⟨g, j, none⟩ = some (.int .i64 (x : Int)) := by
  have hl : j < os.length := (List.getElem?_eq_some_iff.1 hx).1
  obtain ⟨ad, e, _, hc⟩ := Sl.addr h.1 (by rw [ni_len]; omega)
  injection e with e
  subst e
  have := hc j (.int .i64 (x : Int)) (by simp [ci, ni_at hx])
  rwa [add0] at this
theorem RwI.putN {w : World} {B g c j : Nat} {os : List Nat} (h : RwI w B (some ⟨g, 0, none⟩) c (ni os)) (hj : j < os.length) :
    w.frozen? ⟨g, j, none⟩ = false ∧ ∀ v : Nat, RwI (w.setCell ⟨g, j, none⟩ (.int .i64 (v : Int))) B (some ⟨g, 0, none⟩) c (ni (os.set j v)) ∧ w.grownBy (w.setCell ⟨g, j, none⟩ (.int .i64 (v : Int))) (some g) := by
  obtain ⟨g', e, _, _, hp⟩ := Rw.put h (by rw [ni_len]; omega)
  injection e with e
  injection e with e
  subst e
  obtain ⟨_, f0, s0⟩ := hp j (by rw [ci_length, ni_len]; exact hj)
  refine ⟨f0, fun v => ⟨?_, (s0 (.int .i64 (v : Int))).2⟩⟩
  have := (s0 (.int .i64 (v : Int))).1
  rw [ci_set, ni_set] at this
  unfold RwI
  rw [ni_len, List.length_set]
  rwa [ni_len] at this
set_option maxHeartbeats 400000 in
theorem isNaN_any (a : Int) (w : World) : Calls Try.prog 35 #[.int .i64 a] w fun e w' => e = .returned (.bool false) ∧ w = w' := by
  have g : (a != a) = false := by simp
  go_enter Try.func35, Try.ntmps35
  go_wp2
  go_ret
  exact ⟨rfl, rfl⟩
set_option maxHeartbeats 400000 in
theorem compare_any (a b : Int) (w : World) : Calls Try.prog 15 #[.int .i64 a, .int .i64 b] w fun e w' => e = .returned (.int .i64 (cmI a b)) ∧ w' = w := by
  by_cases h1 : a < b
  · have e1 := hd (cmI_lt h1)
    go_enter Try.func15, Try.ntmps15
    go_wp2_with (go_at_call 35; refine (isNaN_any _ _).mono ?_; rintro e w' ⟨rfl, rfl⟩)
    go_ret
    exact ⟨by rw [e1.out]; rfl, rfl⟩
  · by_cases h2 : b < a
    · have e1 := hd (show cmI a b = 1 by unfold cmI; rw [if_neg h1, if_pos h2])
      go_enter Try.func15, Try.ntmps15
      go_wp2_with (go_at_call 35; refine (isNaN_any _ _).mono ?_; rintro e w' ⟨rfl, rfl⟩)
      go_ret
      exact ⟨by rw [e1.out]; rfl, rfl⟩
    · have e1 := hd (show cmI a b = 0 by unfold cmI; rw [if_neg h1, if_neg h2])
      go_enter Try.func15, Try.ntmps15
      go_wp2_with (go_at_call 35; refine (isNaN_any _ _).mono ?_; rintro e w' ⟨rfl, rfl⟩)
      go_ret
      exact ⟨by rw [e1.out]; rfl, rfl⟩
set_option maxHeartbeats 1000000 in
theorem pl1_any (L : Option Addr) (l p a b : Nat) (xs : List Le) (w : World) (hp : Vx 23 w p (.slice L xs.length l)) (h : SlL w L l xs) (ha : a < xs.length) (hb : b < xs.length) :
    Calls Try.prog 14 #[.int .i64 (a : Int), .int .i64 (b : Int), .pointer (some ⟨p, 0, none⟩)] w fun e w' => e = .returned (.int .i64 (cmI (gt xs a).2.2.1 (gt xs b).2.2.1)) ∧ ∃ q, w' = w.drewN q := by
  have hmax := Sl.max h
  have hcap := Sl.cap h
  unfold maxLen at hmax
  obtain ⟨ad, rfl, -, -, -, a2, -⟩ := h.at ha
  obtain ⟨ad', e1, -, -, -, b2, -⟩ := h.at hb
  injection e1 with e1
  subst e1
  have p0 := hp.c
  rw [← gt_at ha] at a2
  rw [← gt_at hb] at b2
  clear h hp
  go_enter Try.func14, Try.ntmps14
  go_wp2_with fail
  go_quiet ((go_at_call 15; exact Calls.quiet_of_same (compare_any _ _ _)))
  go_wp2
  go_ret
  exact ⟨rfl, _, rfl⟩
/-- What holds while places are sorted in block g: the list stands, the places are as said. -/
def Srt (xs : List Le) (L : Option Addr) (l p B g c : Nat) (w : World) (os : List Nat) (wr : World) : Prop :=
  RwI wr B (some ⟨g, 0, none⟩) c (ni os) ∧ Vx 23 wr p (.slice L xs.length l) ∧ SlL wr L l xs ∧ w.grownBy wr (some g)
theorem Srt.drew {xs : List Le} {L : Option Addr} {l p B g c : Nat} {w wr : World} {os : List Nat} (h : Srt xs L l p B g c w os wr) (q : Nat) : Srt xs L l p B g c w os (wr.drewN q) :=
  ⟨h.1.ext (below_drewN (Below.refl _ _) _), h.2.1.ext (below_drewN (Below.refl _ _) _), h.2.2.1.ext (below_drewN (Below.refl _ _) _), ⟨h.2.2.2.os, h.2.2.2.tape, h.2.2.2.output, h.2.2.2.size, h.2.2.2.block⟩⟩
theorem Srt.swap {xs : List Le} {L : Option Addr} {l p B g c j i x : Nat} {w wr : World} {os : List Nat} (h : Srt xs L l p B g c w os wr) (hp : p ≠ g) (hL : ∀ k, rowOf L xs.length = some k → k ≠ g) (hj : j + 1 < os.length) :
    Srt xs L l p B g c w ((os.set (j + 1) x).set j i) ((wr.setCell ⟨g, j + 1, none⟩ (.int .i64 (x : Int))).setCell ⟨g, j, none⟩ (.int .i64 (i : Int))) := by
  obtain ⟨h1, h2, h3, h4⟩ := h
  obtain ⟨r1, g1⟩ := (h1.putN hj).2 x
  obtain ⟨r2, g2⟩ := (r1.putN (j := j) (by rw [List.length_set]; omega)).2 i
  have hg := grown_same g1 g2
  exact ⟨r2, h2.far hg (fun e => by injection e with e; exact hp e.symm), Sl.apart h3 hg (fun k hk e => by injection e with e; exact hL k hk e.symm), grown_same h4 hg⟩
set_option maxRecDepth 100000 in
set_option maxHeartbeats 1000000 in
theorem insSort_any (xs : List Le) (L : Option Addr) (l p B g c : Nat) (w : World) (h12 : xs.length ≤ 12) (h0 : 0 < xs.length) (hp : p ≠ g) (hL : ∀ k, rowOf L xs.length = some k → k ≠ g) (h : Srt xs L l p B g c w (List.range xs.length) w) :
    Calls Try.prog 43 #[.slice (some ⟨g, 0, none⟩) xs.length c, .int .i64 0, .int .i64 (xs.length : Int), .func (.func 14) #[] #[.pointer (some ⟨p, 0, none⟩)]] w fun e w' => e = .returned (.tuple #[]) ∧ ∃ os, Ord xs os ∧ Srt xs L l p B g c w os w' := by
  have hcap := h.1.sl.cap
  rw [ni_len, List.length_range] at hcap
  have H := hd h
  clear h
  go_enter Try.func43, Try.ntmps43
  go_wp2
  go_loopw [8] (fun vi wr => ∃ (i : Nat) (os : List Nat), vi = .int .i64 i ∧ 1 ≤ i ∧ i ≤ xs.length ∧ Hid (OuS xs i os) ∧ Hid (Srt xs L l p B g c w os wr)) (fun vi _ => xs.length - (intOf vi).toNat)
  case atStart => exact ⟨1, _, rfl, by omega, by omega, ouS_start h0, H.out⟩
  case round =>
    clear H
    obtain ⟨i, os, rfl, hi1, hin, HO, HS⟩ := hrel
    by_cases hlt : i < xs.length
    · have hin2 : (i : Int) < (xs.length : Int) := by omega
      go_wp2
      go_loopw [9] (fun vj wr => ∃ (j : Nat) (ps : List Nat), vj = .int .i64 j ∧ j ≤ i ∧ Hid (InS xs i j ps) ∧ Hid (Srt xs L l p B g c w ps wr)) (fun vj _ => (intOf vj).toNat)
      case atStart => exact ⟨i, os, rfl, Nat.le_refl _, inS_start HO.out hlt, HS.out⟩
      case round =>
        clear HS HO
        obtain ⟨j, ps, rfl, hji, HI, HS⟩ := hrel
        rcases Nat.eq_zero_or_pos j with rfl | hj
        · have HO := hd (inS_zero HI.out)
          have g0 : decide ((0 : Int) < (0 : Int)) = false := rfl
          go_wp2_with fail
          go_quiet (fail)
          go_wp2
          go_roundw
          case rel => exact ⟨i + 1, ps, by go_num, by omega, by omega, HO, HS.out.drew _⟩
          case measure => simp [intOf]; omega
        · obtain ⟨j, rfl⟩ : ∃ k, j = k + 1 := ⟨j - 1, by omega⟩
          obtain ⟨x, hx, hxi⟩ := inS_pred HI.out
          have hi' := inS_at HI.out
          have hpl := inS_len HI.out hlt
          have cj := HS.out.1.cellN hi'
          have cp := HS.out.1.cellN hx
          have HC := hd (fun m => pl1_any L l p i x xs (wr.drewN m) (HS.out.drew m).2.1 (HS.out.drew m).2.2.1 hlt (by omega))
          have hwp : IntKind.i64.wrap (j : Int) = (j : Int) := by rw [IntKind.wrap_i64]; omega
          have jz : (j : Int) + 1 < (xs.length : Int) := by omega
          have jz1 : (j : Int) < (xs.length : Int) := by omega
          have hja : (0 : Int) < (j : Int) + 1 := by omega
          have p0 : (0 : Int) ≤ (j : Int) + 1 := by omega
          have e0 : ((j : Int) + 1).toNat = j + 1 := by omega
          have HX := hd hx
          have HPL := hd hpl
          clear hi' hx hpl
          by_cases hc : (gt xs i).2.2.1 < (gt xs x).2.2.1
          · have HI' := hd (inS_swap HI.out HX.out hc)
            rw [cmI_lt hc] at HC
            clear hc
            go_wp2_with fail
            go_quiet ((go_at_call 14; exact Calls.quiet_of (HC.out _)))
            go_wp2_with fail
            obtain ⟨wq, hwq⟩ : ∃ wq, wq = wr.drewN nq := ⟨_, rfl⟩
            have HS2 := hd (HS.out.drew nq)
            rw [← hwq] at HS2 ⊢
            clear hwq HC
            have dj := HS2.out.1.cellN (show ps[j + 1]? = some i from inS_at HI.out)
            have dp := HS2.out.1.cellN HX.out
            have fj := (HS2.out.1.putN (j := j + 1) (by rw [HPL.out]; omega)).1
            have fp := (HS2.out.1.putN (j := j) (by rw [HPL.out]; omega)).1
            clear cj cp
            obtain ⟨j1, hj1⟩ : ∃ j1, j1 = j + 1 := ⟨_, rfl⟩
            rw [← hj1] at dj fj e0
            have J1 := hd hj1
            clear hj1
            go_big_region
            all_goals go_wp2
            go_roundw
            case rel =>
              refine ⟨j, _, rfl, by omega, HI', ?_⟩
              have := (HS2.out.swap (i := i) (x := x) hp hL (j := j) (by rw [HPL.out]; omega)).drew 1
              rw [← J1.out] at this
              rw [← J1.out]
              exact this
            case measure => simp [intOf]
          · have HO := hd (inS_stop HI.out HX.out hc)
            obtain ⟨v, hv⟩ : ∃ v, v = cmI (gt xs i).2.2.1 (gt xs x).2.2.1 := ⟨_, rfl⟩
            have hv0 : ¬ v < 0 := by rw [hv]; exact cmI_ge hc
            rw [← hv] at HC
            clear hc hv
            go_wp2_with fail
            go_quiet ((go_at_call 14; exact Calls.quiet_of (HC.out _)))
            go_wp2
            go_roundw
            case rel => exact ⟨i + 1, ps, by go_num, by omega, by omega, HO, HS.out.drew _⟩
            case measure => simp [intOf]; omega
    · obtain rfl : i = xs.length := by omega
      have HE := hd (ouS_end HO.out)
      go_wp2
      go_end0
      exact ⟨rfl, os, HE.out, HS.out⟩
set_option maxHeartbeats 1000000 in
theorem stable_any (xs : List Le) (L : Option Addr) (l p B g c : Nat) (w : World) (h12 : xs.length ≤ 12) (h0 : 0 < xs.length) (hp : p ≠ g) (hL : ∀ k, rowOf L xs.length = some k → k ≠ g) (h : Srt xs L l p B g c w (List.range xs.length) w) :
    Calls Try.prog 13 #[.slice (some ⟨g, 0, none⟩) xs.length c, .func (.func 14) #[] #[.pointer (some ⟨p, 0, none⟩)]] w fun e w' => e = .returned (.tuple #[]) ∧ ∃ os, Ord xs os ∧ Srt xs L l p B g c w os w' := by
  have HI := hd (insSort_any xs L l p B g c w h12 h0 hp hL h)
  have hS : Calls Try.prog 34 #[.slice (some ⟨g, 0, none⟩) xs.length c, .int .i64 (xs.length : Int), .func (.func 14) #[] #[.pointer (some ⟨p, 0, none⟩)]] w fun e w' => e = .returned (.tuple #[]) ∧ ∃ os, Ord xs os ∧ Srt xs L l p B g c w os w' := by
    clear h
    have e1 : ¬ (20 : Int) ≤ (xs.length : Int) := by omega
    have e2 : ¬ (20 : Int) < (xs.length : Int) := by omega
    go_enter Try.func34, Try.ntmps34
    go_wp2
    go_loopw [7, 8] (fun a b wr => a = .int .i64 0 ∧ b = .int .i64 20 ∧ wr = w) (fun _ _ _ => 0)
    case atStart => exact ⟨rfl, rfl, rfl⟩
    case round =>
      obtain ⟨rfl, rfl, rfl⟩ := hrel
      go_wp2_with fail
      refine HI.out.mono ?_
      rintro e w1 ⟨rfl, os, ho, hs⟩
      have HO := hd (And.intro ho hs)
      clear ho hs
      go_wp2
      go_loopw [6, 7, 8, 9] (fun a _ _ _ wr => a = .int .i64 20 ∧ wr = w1) (fun _ _ _ _ _ => 0)
      case atStart => exact ⟨rfl, rfl⟩
      case round =>
        obtain ⟨rfl, rfl⟩ := hrel
        go_wp2
        go_end0
        exact ⟨rfl, os, HO.out.1, HO.out.2⟩
  clear h
  go_enter Try.func13, Try.ntmps13
  go_wp2_with fail
  refine hS.mono ?_
  rintro e w1 ⟨rfl, os, ho, hs⟩
  have HO := hd (And.intro ho hs)
  clear ho hs
  go_wp2
  go_end0
  exact ⟨rfl, os, HO.out.1, HO.out.2⟩
end Go.Proofs.Ytkkikpmelpjllaa
