/- Routing several reads in plain Lean, and the contracts of RouteReads of both. -/
import Derived.Test.YtbpadfeplmmeeaaWRt
import Derived.Test.YtbpadfeplmmeeaaWAl
import Derived.Test.YtbpadfeplmmeeaaWI
namespace Go.Proofs.Ytbpadfeplmmeeaa
open Go.RowKit
/-- Hosts after a read of the host a. -/
def bump (xs : List Ho) (a : Int) : List Ho := if 0 ≤ a then setL xs a.toNat (min 100 (ldo xs a.toNat + 1)) else xs
theorem bump_len (xs : List Ho) (a : Int) : (bump xs a).length = xs.length := by
  unfold bump; split
  · exact setL_len _ _ _
  · rfl
theorem bump_neg {xs : List Ho} {a : Int} (h : a < 0) : bump xs a = xs := if_neg (by omega)
theorem bump_at {xs : List Ho} {j : Nat} (h : j < xs.length) : bump xs (j : Int) = setL xs j (min 100 (xs[j].1 + 1)) := by
  unfold bump
  rw [if_pos (by omega), Int.toNat_natCast, ldo_at h]
theorem all_setL {xs : List Ho} (h : xs.all okH = true) {j : Nat} (hj : j < xs.length) {v : Int} (h0 : 0 ≤ v) (h1 : v ≤ 100) : (setL xs j v).all okH = true := by
  rw [List.all_eq_true] at h ⊢
  intro x hx
  obtain ⟨k, hk, rfl⟩ := List.mem_iff_getElem.1 hx
  have hk' : k < xs.length := by rwa [setL_len] at hk
  rw [setL_at v hj k hk']
  have hx := h _ (List.getElem_mem hk')
  split
  · simp only [okH, Bool.and_eq_true] at hx ⊢
    exact ⟨inB_true h0 h1, hx.2⟩
  · exact hx
theorem okH_at {xs : List Ho} (h : xs.all okH = true) {j : Nat} (hj : j < xs.length) : 0 ≤ xs[j].1 ∧ xs[j].1 ≤ 100 := by
  rw [List.all_eq_true] at h
  have := h _ (List.getElem_mem hj)
  simp only [okH, Bool.and_eq_true] at this
  exact inB_iff.1 this.1
theorem RT_bound (xs : List Ho) (lag : Int) : RT xs lag = -1 ∨ ∃ j : Nat, RT xs lag = (j : Int) ∧ j < xs.length := by
  by_cases h : RT xs lag < 0
  · exact .inl ((best_RT xs lag).none h).1
  · obtain ⟨j, hj⟩ : ∃ j : Nat, RT xs lag = (j : Int) := ⟨(RT xs lag).toNat, by omega⟩
    exact .inr ⟨j, hj, ((best_RT xs lag).some j hj).1⟩
theorem bump_ok {xs : List Ho} (h : xs.all okH = true) (lag : Int) : (bump xs (RT xs lag)).all okH = true := by
  rcases RT_bound xs lag with e | ⟨j, e, hj⟩
  · rw [e, bump_neg (by omega)]; exact h
  · rw [e, bump_at hj]
    have := okH_at h hj
    exact all_setL h hj (by omega) (by omega)
/-- The hosts after the first k reads. -/
def hst (xs : List Ho) (lags : List Int) : Nat → List Ho
  | 0 => xs
  | k + 1 => bump (hst xs lags k) (RT (hst xs lags k) (lags.getD k 0))
theorem hst_len (xs : List Ho) (lags : List Int) (k : Nat) : (hst xs lags k).length = xs.length := by
  induction k with
  | zero => rfl
  | succ k ih => rw [hst, bump_len, ih]
theorem hst_ok {xs : List Ho} (h : xs.all okH = true) (lags : List Int) (k : Nat) : (hst xs lags k).all okH = true := by
  induction k with
  | zero => exact h
  | succ k ih => exact bump_ok ih _
/-- The reads' hosts. -/
def rds (xs : List Ho) (lags : List Int) (k : Nat) : List Int := (List.range k).map fun i => RT (hst xs lags i) (lags.getD i 0)
theorem rds_len (xs : List Ho) (lags : List Int) (k : Nat) : (rds xs lags k).length = k := by simp [rds]
theorem rds_next {xs : List Ho} {lags : List Int} {k : Nat} (h : k < lags.length) : rds xs lags (k + 1) = rds xs lags k ++ [RT (hst xs lags k) lags[k]] := by
  simp [rds, List.range_succ, List.getD_eq_getElem?_getD, List.getElem?_eq_getElem h]
theorem hst_next {xs : List Ho} {lags : List Int} {k : Nat} (h : k < lags.length) : hst xs lags (k + 1) = bump (hst xs lags k) (RT (hst xs lags k) lags[k]) := by
  rw [hst]; simp [List.getD_eq_getElem?_getD, List.getElem?_eq_getElem h]
/-- RouteReads. -/
def RRS (xs : List Ho) (lags : List Int) : List Int := if VH xs = true ∧ lags.length ≤ 12 ∧ allL lags 0 1000 = true then rds xs lags lags.length else []
theorem RRS_no1 {xs : List Ho} {lags : List Int} (h : VH xs = false) : RRS xs lags = [] := if_neg fun h' => by rw [h] at h'; cases h'.1
theorem RRS_no2 {xs : List Ho} {lags : List Int} (h : ¬ lags.length ≤ 12) : RRS xs lags = [] := if_neg fun h' => h h'.2.1
theorem RRS_no3 {xs : List Ho} {lags : List Int} (h : allL lags 0 1000 = false) : RRS xs lags = [] := if_neg fun h' => by rw [h] at h'; cases h'.2.2
theorem RRS_ok {xs : List Ho} {lags : List Int} (h : VH xs = true) (h2 : lags.length ≤ 12) (h3 : allL lags 0 1000 = true) : RRS xs lags = rds xs lags lags.length := if_pos ⟨h, h2, h3⟩
theorem newI_nil {zs : List Int} {w w' : World} (h : zs = []) (hb : Below w.heap.size w w') : NewI zs w (.returned (.slice none 0 0)) w' := by
  subst h; exact ⟨none, 0, rfl, rwI_nil _ _ _ _ (by decide), hb⟩
theorem take_set_next {us : List Value} {k : Nat} (h : k < us.length) (v : Value) : (us.set k v).take (k + 1) = us.take k ++ [v] := by
  rw [List.take_succ_eq_append_getElem (by simpa using h), List.take_set_of_le (Nat.le_refl _)]
  simp
theorem min_load (v : Int) : (if v + 1 < (100 : Int) then v + 1 else (100 : Int)) = min 100 (v + 1) := by
  split <;> omega
theorem srrN_any (A : Option Addr) (n c : Nat) (xs : List Ho) (lag : Int) (w : World) (h : SlH w A c xs) (hn : n = xs.length) :
    Calls Try.prog 45 #[.slice A n c, .int .i64 lag] w fun e w' => e = .returned (.int .i64 (RT xs lag)) ∧ Below w.heap.size w w' := by
  subst hn; exact srr_any A c xs lag w h
theorem routeN_any (A : Option Addr) (n c : Nat) (xs : List Ho) (lag : Int) (w : World) (h : SlH w A c xs) (hn : n = xs.length) :
    Calls Try.prog 43 #[.slice A n c, .int .i64 lag] w fun e w' => e = .returned (.int .i64 (RT xs lag)) ∧ Below w.heap.size w w' := by
  subst hn; exact route_any A c xs lag w h
set_option maxRecDepth 100000 in
set_option maxHeartbeats 4000000 in
theorem srrs_any (A A' : Option Addr) (c c' : Nat) (xs : List Ho) (lags : List Int) (w : World) (h : SlH w A c xs) (h' : SlI w A' c' lags) :
    Calls Try.prog 23 #[.slice A xs.length c, .slice A' lags.length c'] w (NewI (RRS xs lags) w) := by
  have hmax := h.max
  have hcap := h.cap
  have hmax' := h'.max
  have hcap' := h'.cap
  unfold maxLen at hmax hmax'
  have hb0 : Below w.heap.size w (w.alloc (.cells #[] 3)) := ext_alloc (Below.refl _ _) _
  have h1w := h.ext hb0
  have h1w' := h'.ext hb0
  cases h1 : VH xs with
  | false =>
    have HR := hd (RRS_no1 (lags := lags) h1)
    go_enter Try.func23, Try.ntmps23
    go_wp2_with fail
    refine (svh_any A c xs _ h1w).mono ?_
    rintro e w1 ⟨rfl, hx1⟩
    go_wp2
    go_ret
    exact newI_nil HR.out (hb0.trans (hx1.mono hb0.size))
  | true =>
    have hvl := VH_len h1
    by_cases h2 : lags.length ≤ 12
    · have g2 : decide ((12 : Int) < (lags.length : Int)) = false := decide_eq_false (by omega)
      have g2' : decide (12 < lags.length) = false := decide_eq_false (by omega)
      cases h3 : allL lags 0 1000 with
      | false =>
        have HR := hd (RRS_no3 (xs := xs) h3)
        go_enter Try.func23, Try.ntmps23
        go_wp2_with fail
        refine (svh_any A c xs _ h1w).mono ?_
        rintro e w1 ⟨rfl, hx1⟩
        go_wp2_with (go_at_call 44; refine (sAllIn_any _ _ _ _ _ _ (h1w'.ext hx1)).mono ?_; rintro e w2 ⟨rfl, rfl⟩)
        go_ret
        exact newI_nil HR.out (hb0.trans (hx1.mono hb0.size))
      | true =>
        have HR := hd (RRS_ok h1 h2 h3)
        have HOK := hd (fun k => hst_ok (VH_ok h1) lags k)
        go_enter Try.func23, Try.ntmps23
        go_wp2_with fail
        refine (svh_any A c xs _ h1w).mono ?_
        rintro e w1 ⟨rfl, hx1⟩
        have hs1 := h1w.ext hx1
        have hs1' := h1w'.ext hx1
        have hb1 : Below w.heap.size w w1 := hb0.trans (hx1.mono hb0.size)
        have HO1 := hd (own_ext (own_made w 3 1 [] 0 rfl (by decide)) hx1)
        have ho2 := hd (own_made w1 30 3 [] 0 rfl (by decide))
        have hs2 := hd (Sl.alloc hs1 (.cells #[] 30))
        have hz1 : w.heap.size + 1 ≤ w1.heap.size := by have := hx1.size; rw [World.size_alloc] at this; exact this
        have HL0 := hd h'
        clear h h' h1w h1w' hb0 hx1 hs1
        go_wp2_with (first | (go_at_call 44; refine (sAllIn_any _ _ _ _ _ _ hs1').mono ?_; rintro e w2 ⟨rfl, rfl⟩) | (at_builtin; refine wpList_apps eltH _ _ ho2.out hs2.out (cho_one _) (by omega) (by omega) (by simp) (by rfl) (by rfl) (by rfl) (by rfl) ?_; intro v' w2 hown2 hg2))
        obtain ⟨B, d, rfl, hr⟩ := rwH_of_own hown2 (by simp : [] ++ cho xs = cho xs) (by omega)
        have hx2 : Below w1.heap.size w1 w2 := (ext_alloc (Below.refl _ _) _).grown hg2 (by simp) (by intro k hk; simp [Value.ownBlock] at hk; omega)
        have HO2 := hd (own_ext HO1.out hx2)
        have HB2 := hd (ext_trans hb1 hx2)
        have hz2 : w1.heap.size ≤ w2.heap.size := hx2.size
        obtain ⟨g, hg, hgB, hgl, -⟩ := Rw.put hr (by omega)
        subst hg
        have HR2 := hd hr
        clear hr hown2 hg2 hx2 hs1' hb1 ho2 hs2 HO1
        go_loopw [5, 7] (fun v i wr => ∃ k : Nat, k ≤ lags.length ∧ i = .int .i64 k ∧ wr.ownsRow w.heap.size 3 1 v k (ci (rds xs lags k)) ∧ Hid (RwH wr w1.heap.size 30 (some ⟨g, 0, none⟩) d (hst xs lags k)) ∧ Below w.heap.size w wr) (fun _ i _ => lags.length - (intOf i).toNat)
        case atStart => exact ⟨0, by omega, rfl, HO2.out, HR2.out, HB2.out⟩
        case round =>
          clear HO2 HR2 HB2
          obtain ⟨k, hk, rfl, hown, HR2, hb⟩ := hrel
          by_cases hlt : k < lags.length
          · have HN1 := hd (rds_next (xs := xs) hlt)
            have HN2 := hd (hst_next (xs := xs) hlt)
            have hzl := hst_len xs lags k
            have HOKk := hd (HOK.out k)
            obtain ⟨zs, hzs⟩ : ∃ zs, zs = hst xs lags k := ⟨_, rfl⟩
            rw [← hzs] at HN1 HN2 HR2 HOKk hzl
            have HZL := hd hzl
            clear hzs hzl
            obtain ⟨ad, rfl, hbl, hl0⟩ := SlI.at (Sl.ext HL0.out hb) hlt
            go_wp2_with fail
            refine (srrN_any _ _ _ zs _ _ (RwH.sl HR2.out) HZL.out.symm).mono ?_
            rintro e w3 ⟨rfl, hx3⟩
            have hown3 := own_ext hown hx3
            have HR3 := hd (Rw.ext HR2.out hx3)
            have hb3 := ext_trans hb hx3
            clear hown HR2 hb hx3
            have hz3 := hb3.size
            have hx0 : 0 < zs.length := by rw [HZL.out]; omega
            rcases RT_bound zs lags[k] with e | ⟨j, e, hj⟩
            · have HN3 := hd (show hst xs lags (k + 1) = zs by rw [HN2.out, e, bump_neg (by omega)])
              have HN4 := hd (show ci (rds xs lags (k + 1)) = ci (rds xs lags k) ++ ci [-1] by rw [HN1.out, e, ci_append])
              have HNE := hd (own_ne_rw hown3 HR3.out (by decide))
              rw [e]
              clear e
              go_wp2_with (at_builtin; refine wpList_app eltI _ _ (news := ci [-1]) (m := 1) hown3 rfl (ci_one _) (by omega) (by omega) hz3 (by rfl) (by rfl) (by rfl) (by rfl) ?_; intro v' w5 hown5 hg5)
              go_roundw
              case rel => exact ⟨k + 1, by omega, by go_num, by rw [HN4.out]; exact hown5, by rw [HN3.out]; exact Rw.apart HR3.out hg5 HNE.out, hb3.grown hg5 hz3 (own_ge hown3)⟩
              case measure => simp [intOf]; omega
            · have hj5 : j < xs.length := by rw [HZL.out] at hj; exact hj
              have hld := okH_at HOKk.out hj
              obtain ⟨g', hg', hgB3, hgl3, hc0, hf0, hput⟩ := RwH.load HR3.out hj
              injection hg' with hg'
              injection hg' with hg'
              subst hg'
              have hNE := own_ne_rw hown3 HR3.out (by decide) g (rowOf_some hx0)
              have HN4 := hd (show ci (rds xs lags (k + 1)) = ci (rds xs lags k) ++ ci [(j : Int)] by rw [HN1.out, e, ci_append])
              have HN3 := hd (show hst xs lags (k + 1) = setL zs j (if zs[j].1 + 1 < 100 then zs[j].1 + 1 else 100) by rw [HN2.out, e, bump_at hj, min_load])
              obtain ⟨hr4, hg4⟩ := hput (if zs[j].1 + 1 < 100 then zs[j].1 + 1 else 100)
              have hown4 := own_apart hown3 hg4 (fun q hq e => by rw [← e] at hq; exact hNE hq)
              have hb4 := hb3.grown hg4 hz3 (fun q e => by injection e with e; omega)
              have HNE4 := hd (own_ne_rw hown4 hr4 (by decide))
              have HR4 := hd hr4
              have HB4 := hd hb4
              have hz4 := hb4.size
              rw [e]
              clear e hput hown3 hg4 hr4 hb3 HR3 hNE hb4
              go_wp2_with (at_builtin; refine wpList_appH eltI _ _ w3.heap.size (setCell_size _ _ _) (news := ci [(j : Int)]) (m := 1) hown4 rfl (ci_one _) (by omega) (by omega) hz4 (by rfl) (by rfl) (by rfl) (by rfl) ?_; intro v' w5 hown5 hg5)
              go_roundw
              case rel => exact ⟨k + 1, by omega, by go_num, by rw [HN4.out]; exact hown5, by rw [HN3.out]; exact Rw.apart HR4.out hg5 (by rw [setL_len] at *; exact HNE4.out), HB4.out.grown hg5 hz4 (own_ge hown4)⟩
              case measure => simp [intOf]; omega
          · obtain rfl : k = lags.length := by omega
            go_wp2
            go_ret
            obtain ⟨A2, c2, rfl, hr⟩ := rwI_of_own (zs := RRS xs lags) hown (by rw [HR.out]) (by rw [HR.out, rds_len])
            exact ⟨A2, c2, rfl, hr, hb⟩
    · have HR := hd (RRS_no2 (xs := xs) h2)
      have g2 : decide ((12 : Int) < (lags.length : Int)) = true := decide_eq_true (by omega)
      have g2' : decide (12 < lags.length) = true := decide_eq_true (by omega)
      go_enter Try.func23, Try.ntmps23
      go_wp2_with fail
      refine (svh_any A c xs _ h1w).mono ?_
      rintro e w1 ⟨rfl, hx1⟩
      go_wp2
      go_ret
      exact newI_nil HR.out (hb0.trans (hx1.mono hb0.size))
set_option maxRecDepth 100000 in
set_option maxHeartbeats 4000000 in
theorem rrs_any (A A' : Option Addr) (c c' : Nat) (xs : List Ho) (lags : List Int) (w : World) (h : SlH w A c xs) (h' : SlI w A' c' lags) :
    Calls Try.prog 21 #[.slice A xs.length c, .slice A' lags.length c'] w (NewI (RRS xs lags) w) := by
  have hmax := h.max
  have hcap := h.cap
  have hmax' := h'.max
  have hcap' := h'.cap
  unfold maxLen at hmax hmax'
  cases h1 : VH xs with
  | false =>
    have HR := hd (RRS_no1 (lags := lags) h1)
    go_enter Try.func21, Try.ntmps21
    go_wp2_with fail
    refine (vh_any A c xs _ h).mono ?_
    rintro e w1 ⟨rfl, hx1⟩
    go_wp2
    go_ret
    exact newI_nil HR.out hx1
  | true =>
    have hvl := VH_len h1
    by_cases h2 : lags.length ≤ 12
    · have g2 : decide ((12 : Int) < (lags.length : Int)) = false := decide_eq_false (by omega)
      have g2' : decide (12 < lags.length) = false := decide_eq_false (by omega)
      cases h3 : allL lags 0 1000 with
      | false =>
        have HR := hd (RRS_no3 (xs := xs) h3)
        go_enter Try.func21, Try.ntmps21
        go_wp2_with fail
        refine (vh_any A c xs _ h).mono ?_
        rintro e w1 ⟨rfl, hx1⟩
        go_wp2_with fail
        refine (allIn_any _ _ _ _ _ _ (h'.ext hx1)).mono ?_
        rintro e w2 ⟨rfl, hx2⟩
        rw [h3]
        go_wp2
        go_ret
        exact newI_nil HR.out (ext_trans hx1 hx2)
      | true =>
        have HR := hd (RRS_ok h1 h2 h3)
        have HOK := hd (fun k => hst_ok (VH_ok h1) lags k)
        obtain ⟨ii, hi1, hi2, hi3, hi4⟩ := info_parts eltI.hi
        go_enter Try.func21, Try.ntmps21
        go_wp2_with fail
        refine (vh_any A c xs _ h).mono ?_
        rintro e w1 ⟨rfl, hx1⟩
        go_wp2_with fail
        refine (allIn_any _ _ _ _ _ _ (h'.ext hx1)).mono ?_
        rintro e w2 ⟨rfl, hx2⟩
        have hx12 := ext_trans hx1 hx2
        clear hx1 hx2
        rw [h3]
        go_wp2_with fail
        refine (cloneH_any _ _ _ _ (h.ext hx12) (by omega)).mono ?_
        rintro e w3 ⟨B, d, rfl, hr, hx3⟩
        have hb3 := ext_trans hx12 hx3
        obtain ⟨g, hg, hgB, hgl, -⟩ := Rw.put hr (by omega)
        subst hg
        have HR2 := hd hr
        have HL0 := hd h'
        have hz3 := hb3.size
        have hz23 := hx12.size
        clear hr h h' hx12 hx3
        go_wp2_with (refine wpList_make_full _ (by rfl) _ _ _ (by rfl) w3.heap.size 3 ii _ 1 eltI.ht hi1 hi2 hi3 _ _ _ _ lags.length (by rfl) (by rfl) (by rfl) (by rfl) (by rw [hi4]; omega) (by unfold maxLen; omega) (Nat.le_refl _) ?_; intro w4 hown4 hg4)
        have hx4 : Below w3.heap.size w3 w4 := (Below.refl _ _).grown hg4 (Nat.le_refl _) (fun k e => by cases e)
        have HB4 := hd (ext_trans hb3 hx4)
        have HR4 := hd (Rw.ext HR2.out hx4)
        have HL := hd hown4.1
        obtain ⟨us1, hus1⟩ : ∃ us, us = (madeCells (Value.int IntKind.i64 0).cells (lags.length * 1)).toList := ⟨_, rfl⟩
        rw [← hus1] at hown4 HL
        clear hus1
        have H4 := hd hown4
        clear hown4 hb3 hg4 hx4 HR2
        go_loopw [29] (fun i wr => ∃ (k : Nat) (us : List Value), k ≤ lags.length ∧ i = .int .i64 k ∧ wr.ownsRow w3.heap.size 3 1 (.slice (some ⟨w3.heap.size, 0, none⟩) lags.length lags.length) lags.length us ∧ Hid (us.length = lags.length * 1) ∧ Hid (us.take k = ci (rds xs lags k)) ∧ Hid (RwH wr w2.heap.size 30 (some ⟨g, 0, none⟩) d (hst xs lags k)) ∧ Below w.heap.size w wr) (fun i _ => lags.length - (intOf i).toNat)
        case atStart => exact ⟨0, us1, by omega, rfl, H4.out, HL.out, hd (by simp [rds, ci]), HR4.out, HB4.out⟩
        case round =>
          clear H4 HL HR4 HB4 us1
          obtain ⟨k, us, hk, rfl, hown, HL, HT, HR2, hb⟩ := hrel
          by_cases hlt : k < lags.length
          · have HN1 := hd (rds_next (xs := xs) hlt)
            have HN2 := hd (hst_next (xs := xs) hlt)
            have hzl := hst_len xs lags k
            have HOKk := hd (HOK.out k)
            obtain ⟨zs, hzs⟩ : ∃ zs, zs = hst xs lags k := ⟨_, rfl⟩
            rw [← hzs] at HN1 HN2 HR2 HOKk hzl
            have HZL := hd hzl
            clear hzs hzl
            obtain ⟨ad, rfl, hbl, hl0⟩ := SlI.at (Sl.ext HL0.out hb) hlt
            go_wp2_with fail
            refine (routeN_any _ _ _ zs _ _ (RwH.sl HR2.out) HZL.out.symm).mono ?_
            rintro e w5 ⟨rfl, hx5⟩
            have hown5 := own_ext hown hx5
            have HR5 := hd (Rw.ext HR2.out hx5)
            have hb5 := ext_trans hb hx5
            clear hown HR2 hb hx5
            have hz5 := hb5.size
            have hx0 : 0 < zs.length := by rw [HZL.out]; omega
            obtain ⟨u0, hu0⟩ := own_cell' hown5 k (by rw [HL.out]; omega)
            have f0 := hown5.frozenAt k
            have hkl : k < us.length := by rw [HL.out]; omega
            rcases RT_bound zs lags[k] with e | ⟨j, e, hj⟩
            · have HN3 := hd (show hst xs lags (k + 1) = zs by rw [HN2.out, e, bump_neg (by omega)])
              have s1 := hown5.stored k (.int .i64 (-1))
              have HN4 := hd (show (us.set k (.int .i64 (-1))).take (k + 1) = ci (rds xs lags (k + 1)) by rw [take_set_next hkl _, HT.out, HN1.out, e, ci_append]; rfl)
              have HS := hd s1
              have HRA := hd (Rw.apart HR5.out s1.2 (fun q hq e => by rw [rowOf_some hx0] at hq; injection hq with hq; injection e with e; omega))
              have HBA := hd (hb5.grown s1.2 hz5 (fun q e => by injection e with e; omega))
              rw [e]
              clear e s1
              go_wp2_with fail
              go_roundw
              case rel => exact ⟨k + 1, _, by omega, by go_num, HS.out.1, by rw [List.length_set]; exact HL.out, HN4.out, by rw [HN3.out]; exact HRA.out, HBA.out⟩
              case measure => simp [intOf]; omega
            · have hj5 : j < xs.length := by rw [HZL.out] at hj; exact hj
              have hld := okH_at HOKk.out hj
              have s1 := hown5.stored k (.int .i64 (j : Int))
              have HN4 := hd (show (us.set k (.int .i64 (j : Int))).take (k + 1) = ci (rds xs lags (k + 1)) by rw [take_set_next hkl _, HT.out, HN1.out, e, ci_append]; rfl)
              have HN3 := hd (show hst xs lags (k + 1) = setL zs j (if zs[j].1 + 1 < 100 then zs[j].1 + 1 else 100) by rw [HN2.out, e, bump_at hj, min_load])
              have HRA := Rw.apart HR5.out s1.2 (fun q hq e => by rw [rowOf_some hx0] at hq; injection hq with hq; injection e with e; omega)
              have HBA := hb5.grown s1.2 hz5 (fun q e => by injection e with e; omega)
              obtain ⟨g', hg', hgB3, hgl3, hc0, hf1, hput⟩ := RwH.load HRA hj
              injection hg' with hg'
              injection hg' with hg'
              subst hg'
              have hwk : (w5.setCell ⟨w3.heap.size, k, none⟩ (.int .i64 (j : Int))).cell? ⟨w3.heap.size, k, none⟩ = some (.int .i64 (j : Int)) := by
                obtain ⟨u1, hu1⟩ := own_cell' s1.1 k (by rw [List.length_set]; exact hkl)
                have := s1.1.cells (g := w3.heap.size) rfl k (.int .i64 (j : Int)) (by rw [List.getElem?_set_self hkl])
                have e0 : (⟨w3.heap.size, 0, none⟩ : Addr).add k = ⟨w3.heap.size, k, none⟩ := by unfold Addr.add; split <;> simp_all
                rwa [e0] at this
              have HS := hd s1
              have HRA := hd HRA
              have HBA := hd HBA
              have HPUT := hd hput
              rw [e]
              clear e s1 hput
              go_wp2_with fail
              go_region
              obtain ⟨hr7, hg7⟩ := HPUT.out (if zs[j].1 + 1 < 100 then zs[j].1 + 1 else 100)
              have hown7 := own_apart HS.out.1 hg7 (fun q hq e => by simp [Value.ownBlock] at hq; injection e with e; omega)
              have hb7 := HBA.out.grown hg7 (by have := HBA.out.size; omega) (fun q e => by injection e with e; omega)
              have H7 := hd (And.intro hown7 (And.intro hr7 hb7))
              clear hr7 hg7 hown7 hb7
              go_wp2
              go_roundw
              case rel => exact ⟨k + 1, _, by omega, by go_num, H7.out.1, by rw [List.length_set]; exact HL.out, HN4.out, by rw [HN3.out]; exact H7.out.2.1, ext_drew H7.out.2.2⟩
              case measure => simp [intOf]; omega
          · obtain rfl : k = lags.length := by omega
            have e1 : us = ci (rds xs lags lags.length) := by
              have h0 : us.take lags.length = us := List.take_of_length_le (by rw [HL.out]; omega)
              rw [← HT.out, h0]
            go_wp2
            go_ret
            obtain ⟨A2, c2, e2, hr⟩ := rwI_of_own (zs := RRS xs lags) hown (by rw [e1, HR.out]) (by rw [HR.out, rds_len])
            exact ⟨A2, c2, by rw [← e2]; rfl, Rw.low hr (by omega), hb⟩
    · have HR := hd (RRS_no2 (xs := xs) h2)
      have g2 : decide ((12 : Int) < (lags.length : Int)) = true := decide_eq_true (by omega)
      have g2' : decide (12 < lags.length) = true := decide_eq_true (by omega)
      go_enter Try.func21, Try.ntmps21
      go_wp2_with fail
      refine (vh_any A c xs _ h).mono ?_
      rintro e w1 ⟨rfl, hx1⟩
      go_wp2
      go_ret
      exact newI_nil HR.out hx1
end Go.Proofs.Ytbpadfeplmmeeaa
