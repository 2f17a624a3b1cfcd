/- The walks of laws.FnRouteReadsShort, laws.FnRouteReadsSpread and laws.FnRouteReads. -/
import Derived.Test.YtbpadfeplmmeeaaWRs
import Derived.Test.YtbpadfeplmmeeaaDrR
import Derived.Test.YtbpadfeplmmeeaaWRr
import Derived.Test.YtbpadfeplmmeeaaLAd
namespace Go.Proofs.Ytbpadfeplmmeeaa
open Go.RowKit
theorem rrs_is {os : List Int} {xs : List Ho} {lags : List Int} {A A' : Option Addr} {n m c c' : Nat} {w : World} (ho : RRS xs lags = os) (h : SlH w A c xs) (h' : SlI w A' c' lags) (hn : n = xs.length) (hm : m = lags.length) :
    Calls Try.prog 21 #[.slice A n c, .slice A' m c'] w fun e w' => ∃ P p, e = .returned (.slice P os.length p) ∧ SlI w' P p os ∧ Below w.heap.size w w' := by
  subst hn hm
  exact (rrs_any A A' c c' xs lags w h h').mono fun e w' hh => by
    obtain ⟨P, p, he, hr, hb⟩ := hh
    rw [ho] at he hr
    exact ⟨P, p, he, RwI.sl hr, hb⟩
theorem srrs_is {os : List Int} {xs : List Ho} {lags : List Int} {A A' : Option Addr} {n m c c' : Nat} {w : World} (ho : RRS xs lags = os) (h : SlH w A c xs) (h' : SlI w A' c' lags) (hn : n = xs.length) (hm : m = lags.length) :
    Calls Try.prog 23 #[.slice A n c, .slice A' m c'] w fun e w' => ∃ P p, e = .returned (.slice P os.length p) ∧ SlI w' P p os ∧ Below w.heap.size w w' := by
  subst hn hm
  exact (srrs_any A A' c c' xs lags w h h').mono fun e w' hh => by
    obtain ⟨P, p, he, hr, hb⟩ := hh
    rw [ho] at he hr
    exact ⟨P, p, he, RwI.sl hr, hb⟩
theorem hst_congr (xs : List Ho) (l1 l2 : List Int) (k : Nat) (h : ∀ i, i < k → l1.getD i 0 = l2.getD i 0) : hst xs l1 k = hst xs l2 k := by
  induction k with
  | zero => rfl
  | succ k ih => rw [hst, hst, ih (fun i hi => h i (by omega)), h k (by omega)]
theorem RRS_some {os : List Int} {xs : List Ho} {lags : List Int} (ho : RRS xs lags = os) (h0 : 0 < os.length) : VH xs = true ∧ lags.length ≤ 12 ∧ allL lags 0 1000 = true ∧ os = rds xs lags lags.length ∧ os.length = lags.length := by
  unfold RRS at ho
  split at ho
  · rename_i h
    exact ⟨h.1, h.2.1, h.2.2, ho.symm, by rw [← ho, rds_len]⟩
  · subst ho; simp at h0
theorem RRS_take {os : List Int} {xs : List Ho} {lags : List Int} {m : Nat} (ho : RRS xs lags = os) (h0 : 0 < os.length) (hm : m + 1 = lags.length) : RRS xs (lags.take m) = os.take m := by
  obtain ⟨h1, h2, h3, h4, h5⟩ := RRS_some ho h0
  have hl : (lags.take m).length = m := by rw [List.length_take]; omega
  rw [RRS_ok h1 (by rw [hl]; omega) (by
    unfold allL at h3 ⊢
    rw [List.all_eq_true] at h3 ⊢
    exact fun x hx => h3 x (List.mem_of_mem_take hx)), hl, h4, ← hm]
  rw [rds_next (by omega), List.take_left' (by rw [rds_len])]
  unfold rds
  refine List.map_congr_left fun i hi => ?_
  have hi := List.mem_range.1 hi
  have e : ∀ j, j < m → (lags.take m).getD j 0 = lags.getD j 0 := fun j hj => by
    simp [List.getD_eq_getElem?_getD, List.getElem?_take, hj]
  rw [hst_congr xs (lags.take m) lags i (fun j hj => e j (by omega)), e i hi]
set_option maxRecDepth 100000 in
set_option maxHeartbeats 4000000 in
theorem lawRouteReadsShort (A : Option Addr) (n c : Nat) (w : World) (h : SlB w A n c) :
    Calls Try.prog 6 #[.slice A n c] w fun e w' => e = .returned (.bool true) ∧ Below w.heap.size w w' := by
  have hmax := h.2.1
  have hcap := h.1
  unfold maxLen at hmax
  by_cases hn : 1048576 < n
  · go_enter Try.func6, Try.ntmps6
    go_wp2
    go_ret
    exact ⟨rfl, Below.refl _ _⟩
  · go_enter Try.func6, Try.ntmps6
    go_wp2_with fail
    refine (drawRouteReads_any A n c w h).mono ?_
    rintro e w1 ⟨B, B', d, d', ys, zs, rfl, s, s', hl1, hl, hzl, hb⟩
    have hbm := s'.max
    have hbc := s'.cap
    unfold maxLen at hbm
    obtain ⟨os, ho⟩ : ∃ os, RRS ys zs = os := ⟨_, rfl⟩
    have HO := hd ho
    have HE := hd (sameI_self os)
    go_wp2_with fail
    refine (rrs_is HO.out s s' rfl rfl).mono ?_
    rintro e w1 ⟨P, p, rfl, r, hx⟩
    replace s := s.ext hx; replace s' := s'.ext hx; replace hb := ext_trans hb hx; clear hx
    go_wp2_with fail
    refine (srrs_is HO.out s s' rfl rfl).mono ?_
    rintro e w1 ⟨Q, q, rfl, t, hx⟩
    replace s := s.ext hx; replace s' := s'.ext hx; replace r := r.ext hx; replace hb := ext_trans hb hx; clear hx
    go_wp2_with fail
    refine (eqIN_any r t rfl rfl).mono ?_
    rintro e w1 ⟨rfl, hx⟩
    replace s := s.ext hx; replace s' := s'.ext hx; replace r := r.ext hx; replace hb := ext_trans hb hx; clear hx
    rw [HE.out]
    clear t
    by_cases h0 : os.length = 0
    · have g0 : ((os.length : Int) == 0) = true := by simp [h0]
      have g0' : (os.length == 0) = true := by simp [h0]
      clear ho h0
      go_wp2_with fail
      refine (srrs_is HO.out s s' rfl rfl).mono ?_
      rintro e w1 ⟨Q, q, rfl, t, hx⟩
      replace s := s.ext hx; replace s' := s'.ext hx; replace r := r.ext hx; replace hb := ext_trans hb hx; clear hx
      go_wp2_with fail
      refine (eqIN_any r t rfl rfl).mono ?_
      rintro e w1 ⟨rfl, hx⟩
      replace hb := ext_trans hb hx; clear hx
      rw [HE.out]
      go_wp2
      go_ret
      exact ⟨rfl, hb⟩
    · have g0 : ((os.length : Int) == 0) = false := beq_eq_false_iff_ne.2 (by omega)
      have g0' : (os.length == 0) = false := beq_eq_false_iff_ne.2 h0
      obtain ⟨-, -, -, -, hol⟩ := RRS_some ho (by omega)
      obtain ⟨m, hm, hmk⟩ : ∃ m : Nat, (zs.length : Int) - 1 = (m : Int) ∧ m + 1 = zs.length := ⟨zs.length - 1, by omega, by omega⟩
      obtain ⟨qs, hqs⟩ : ∃ qs, qs = os.take m := ⟨_, rfl⟩
      have HQ := hd hqs
      have HT := hd (show RRS ys (zs.take m) = qs by rw [hqs]; exact RRS_take ho (by omega) hmk)
      have HE2 := hd (sameI_self qs)
      have gE : ((os.length : Int) == (m : Int) + 1) = true := beq_iff_eq.2 (by omega)
      have hmd : (m : Int) ≤ (d' : Int) := by omega
      have rcap := r.cap
      have hmp : (m : Int) ≤ (p : Int) := by omega
      have hml : (m : Int) ≤ (zs.length : Int) := by omega
      have HM1 := hd (show m = (zs.take m).length by rw [List.length_take]; omega)
      have HM2 := hd (show m = qs.length by rw [hqs, List.length_take]; omega)
      have hm1 : m ≤ zs.length := by omega
      have hm2 : m ≤ os.length := by omega
      have hrt : ∀ W, SlI W P p os → SlI W P p qs := fun W hW => by rw [HQ.out]; exact hW.take hm2
      have HRT := hd hrt
      clear ho h0 hol hmk rcap hqs hrt
      have hw : IntKind.i64.wrap ((m : Int) + 1) = (m : Int) + 1 := by rw [IntKind.wrap_i64]; omega
      have sD : SlH w1.drew B d ys := s
      have sT : SlI w1.drew B' d' zs := s'
      replace r : SlI w1.drew P p os := r
      replace hb := ext_drew hb
      go_wp2_with fail
      go_region_held3 (fun _ => True) (trivial) (first | (go_at_call 21; refine (rrs_is HT.out sD (sT.take hm1) rfl HM1.out).mono ?_; rintro e w6 ⟨R, u, rfl, v, hx⟩; replace r := r.ext hx; replace hb := ext_trans hb hx; clear hx) | (go_at_call 22; refine (eqIN_any v (HRT.out _ r) rfl HM2.out).mono ?_; rintro e w7 ⟨rfl, hx⟩; replace hb := ext_trans hb hx; clear hx; rw [HE2.out]))
      go_wp2
      go_ret
      exact ⟨rfl, hb⟩
/-- Two hosts without load. -/
def two : List Ho := [(0, 0, false), (0, 0, false)]
theorem RT_two (a b : Int) : RT [(a, 0, false), (b, 0, false)] 1000 = if b ≤ a then 1 else 0 := by
  by_cases h : b < a
  · simp [RT, rte, rstep, ldo, h]; omega
  · by_cases h2 : b = a
    · subst h2; simp [RT, rte, rstep, ldo]
    · have : ¬ b ≤ a := by omega
      simp [RT, rte, rstep, ldo, h, h2, this]
theorem hst_two (n k : Nat) (hk : k ≤ n) (hn : n ≤ 12) : hst two (List.replicate n 1000) k = [(((k / 2 : Nat) : Int), 0, false), ((((k + 1) / 2 : Nat) : Int), 0, false)] := by
  induction k with
  | zero => rfl
  | succ k ih =>
    rw [hst, ih (by omega)]
    have e : (List.replicate n (1000 : Int)).getD k 0 = 1000 := by simp [List.getD_eq_getElem?_getD, show k < n by omega]
    rw [e, RT_two]
    by_cases h : k % 2 = 0
    · have h1 : (k + 1) / 2 = k / 2 := by omega
      have h2 : (k + 1 + 1) / 2 = k / 2 + 1 := by omega
      rw [h1, h2, if_pos (Int.le_refl _)]
      simp [bump, setL, ldo]
      omega
    · have h1 : (k + 1) / 2 = k / 2 + 1 := by omega
      have h2 : (k + 1 + 1) / 2 = k / 2 + 1 := by omega
      rw [h1, h2, if_neg (by omega)]
      simp [bump, setL, ldo]
      omega
/-- The turns of two hosts. -/
def spr (n : Nat) : List Int := (List.range n).map fun i => (((i + 1) % 2 : Nat) : Int)
theorem spr_len (n : Nat) : (spr n).length = n := by simp [spr]
theorem spr_at {n k : Nat} (h : k < (spr n).length) : (spr n)[k] = (((k + 1) % 2 : Nat) : Int) := by simp [spr]
theorem RRS_two {n : Nat} (hn : n ≤ 12) : RRS two (List.replicate n 1000) = spr n := by
  rw [RRS_ok (by decide) (by simp; omega) (by
    unfold allL
    rw [List.all_eq_true]
    intro x hx
    rw [List.eq_of_mem_replicate hx]
    decide), List.length_replicate]
  unfold rds spr
  refine List.map_congr_left fun i hi => ?_
  have hi := List.mem_range.1 hi
  have e : (List.replicate n (1000 : Int)).getD i 0 = 1000 := by simp [List.getD_eq_getElem?_getD, hi]
  rw [hst_two n i (by omega) hn, e, RT_two]
  split <;> omega
set_option maxRecDepth 100000 in
set_option maxHeartbeats 4000000 in
theorem lawRouteReadsSpread (A : Option Addr) (n c : Nat) (w : World) (h : SlB w A n c) :
    Calls Try.prog 7 #[.slice A n c] w fun e w' => e = .returned (.bool true) ∧ Below w.heap.size w w' := by
  have hmax := h.2.1
  have hcap := h.1
  unfold maxLen at hmax
  by_cases hn : 1048576 < n
  · go_enter Try.func7, Try.ntmps7
    go_wp2
    go_ret
    exact ⟨rfl, Below.refl _ _⟩
  · go_enter Try.func7, Try.ntmps7
    go_wp2_with fail
    refine (drawRouteReads_any A n c w h).mono ?_
    rintro e w1 ⟨B, B', d, d', ys, zs, rfl, s, s', hl1, hl, hzl, hb⟩
    have hbm := s'.max
    have hbc := s'.cap
    unfold maxLen at hbm
    obtain ⟨os, ho⟩ : ∃ os, RRS ys zs = os := ⟨_, rfl⟩
    have HO := hd ho
    have HE := hd (sameI_self os)
    clear ho
    go_wp2_with fail
    refine (rrs_is HO.out s s' rfl rfl).mono ?_
    rintro e w1 ⟨P, p, rfl, r, hx⟩
    replace s := s.ext hx; replace s' := s'.ext hx; replace hb := ext_trans hb hx; clear hx
    go_wp2_with fail
    refine (srrs_is HO.out s s' rfl rfl).mono ?_
    rintro e w1 ⟨Q, q, rfl, t, hx⟩
    replace s := s.ext hx; replace s' := s'.ext hx; replace r := r.ext hx; replace hb := ext_trans hb hx; clear hx
    go_wp2_with fail
    refine (eqIN_any r t rfl rfl).mono ?_
    rintro e w1 ⟨rfl, hx⟩
    replace s := s.ext hx; replace s' := s'.ext hx; replace r := r.ext hx; replace hb := ext_trans hb hx; clear hx
    rw [HE.out]
    clear t
    by_cases h0 : 12 < zs.length
    · have g0 : decide ((12 : Int) < (zs.length : Int)) = true := decide_eq_true (by omega)
      have g0' : decide (12 < zs.length) = true := decide_eq_true h0
      go_wp2_with fail
      refine (srrs_is HO.out s s' rfl rfl).mono ?_
      rintro e w1 ⟨Q, q, rfl, t, hx⟩
      replace s := s.ext hx; replace s' := s'.ext hx; replace r := r.ext hx; replace hb := ext_trans hb hx; clear hx
      go_wp2_with fail
      refine (eqIN_any r t rfl rfl).mono ?_
      rintro e w1 ⟨rfl, hx⟩
      replace hb := ext_trans hb hx; clear hx
      rw [HE.out]
      go_wp2
      go_ret
      exact ⟨rfl, hb⟩
    · have g0 : decide ((12 : Int) < (zs.length : Int)) = false := decide_eq_false (by omega)
      have g0' : decide (12 < zs.length) = false := decide_eq_false h0
      have h12 : zs.length ≤ 12 := by omega
      have ho1 := hd (own_made w1 3 1 [] 0 rfl (by decide))
      have HB := hd hb
      clear hb r s'
      go_wp2_with fail
      go_loopw [6, 7] (fun v i wr => ∃ k : Nat, k ≤ zs.length ∧ i = .int .i64 k ∧ wr.ownsRow w1.heap.size 3 1 v k (ci (List.replicate k 1000)) ∧ Below w1.heap.size w1 wr) (fun _ i _ => zs.length - (intOf i).toNat)
      case atStart => exact ⟨0, by omega, rfl, ho1.out, (Below.refl _ _).alloc (Nat.le_refl _) _⟩
      case round =>
        obtain ⟨k, hk, rfl, hown, hbx⟩ := hrel
        by_cases hlt : k < zs.length
        · have HN := hd (show ci (List.replicate (k + 1) 1000) = ci (List.replicate k 1000) ++ ci [1000] by rw [List.replicate_succ', ci_append])
          go_wp2_with (at_builtin; refine wpList_app eltI _ _ (news := ci [1000]) (m := 1) hown rfl (ci_one _) (by omega) (by omega) hbx.size (by rfl) (by rfl) (by rfl) (by rfl) ?_; intro v' w5 hown3 hg3)
          go_roundw
          case rel => exact ⟨k + 1, by omega, by go_num, by rw [HN.out]; exact hown3, hbx.grown hg3 hbx.size (own_ge hown)⟩
          case measure => simp [intOf]; omega
        · obtain rfl : k = zs.length := by omega
          obtain ⟨wo, rfl⟩ : ∃ wo : World, wo = wr := ⟨_, rfl⟩
          obtain ⟨ls, hls⟩ : ∃ ls, ls = List.replicate zs.length (1000 : Int) := ⟨_, rfl⟩
          obtain ⟨N, nc, rfl, hns, _⟩ := slI_of_own (zs := ls) hown (by rw [hls]) (by rw [hls, List.length_replicate])
          obtain ⟨qs, hqs⟩ : ∃ qs, qs = spr zs.length := ⟨_, rfl⟩
          have HQ := hd hqs
          have HT := hd (show RRS two ls = qs by rw [hls, hqs]; exact RRS_two h12)
          have hql : qs.length = zs.length := by rw [hqs, spr_len]
          have HQL := hd hql
          have hq1 : qs.length ≤ zs.length := by omega
          have hq2 : zs.length ≤ qs.length := by omega
          have hb := ext_trans HB.out hbx
          have sD : SlH (wo.alloc (.cells (cho two).toArray 30)) (some ⟨wo.heap.size, 0, none⟩) 2 two := sl_made (m := 2) rfl (by decide)
          have sT := SlI.ext hns (ext_alloc (Below.refl _ _) (.cells (cho two).toArray 30))
          have hb2 := ext_alloc hb (.cells (cho two).toArray 30)
          have HH := hd (And.intro sD (And.intro sT hb2))
          clear hown hns hbx hls hqs hql ho1 HB sD sT hb2 hb
          go_wp2_with fail
          refine (rrs_is HT.out HH.out.1 HH.out.2.1 rfl rfl).mono ?_
          rintro e w6 ⟨R, u, rfl, v, hx⟩
          have hb := ext_trans HH.out.2.2 hx
          have vm := v.max
          have vc := v.cap
          unfold maxLen at vm
          clear HH hx
          go_wp2_with fail
          go_loop [9] (fun i => ∃ k : Nat, k ≤ qs.length ∧ i = .int .i64 k) (fun i => qs.length - (intOf i).toNat)
          case atStart => exact ⟨0, by omega, rfl⟩
          case round =>
            obtain ⟨k, hk, rfl⟩ := hrel
            by_cases hlt2 : k < qs.length
            · obtain ⟨ad, rfl, -, c0⟩ := v.at hlt2
              have hval : qs[k] = (((k + 1) % 2 : Nat) : Int) := by
                have := spr_at (n := zs.length) (k := k) (by rw [spr_len]; omega)
                rw [← this]
                exact getElem_congr_coll HQ.out
              have gn : (qs[k] != ((k : Int) + 1) % 2) = false := by simp [hval]
              have gn2 : (qs[k] != ((k : Int) + 1).tmod 2) = false := by rw [Int.tmod_eq_emod_of_nonneg (by omega)]; exact gn
              clear hval
              go_wp2
              go_round
              case rel => exact ⟨k + 1, by omega, by go_num⟩
              case measure => simp [intOf]; omega
            · obtain rfl : k = qs.length := by omega
              have ge : ((qs.length : Int) == (zs.length : Int)) = true := beq_iff_eq.2 (by omega)
              go_wp2
              go_ret
              exact ⟨rfl, hb⟩
theorem VH_bump {xs : List Ho} (h : VH xs = true) (lag : Int) : VH (bump xs (RT xs lag)) = true := by
  have hl := VH_len h
  simp only [VH, Bool.and_eq_true]
  refine ⟨by rw [bump_len]; exact inB_true (by omega) (by omega), ?_, bump_ok (VH_ok h) lag⟩
  have h0 := VH_lag h
  rcases RT_bound xs lag with e | ⟨j, e, hj⟩
  · rw [e, bump_neg (by omega)]; exact h0
  · rw [e, bump_at hj, lag0_at (by rw [setL_len]; omega)]
    rw [lag0_at (by omega)] at h0
    rw [setL_at _ hj 0 (by omega)]
    split <;> exact h0
theorem hst_cons (xs : List Ho) (l : Int) (r : List Int) (k : Nat) : hst xs (l :: r) (k + 1) = hst (bump xs (RT xs l)) r k := by
  induction k with
  | zero => rfl
  | succ k ih => rw [hst, ih]; rfl
theorem rds_cons (xs : List Ho) (l : Int) (r : List Int) (k : Nat) : rds xs (l :: r) (k + 1) = RT xs l :: rds (bump xs (RT xs l)) r k := by
  unfold rds
  rw [List.range_succ_eq_map, List.map_cons, List.map_map]
  congr 1
  refine List.map_congr_left fun i _ => ?_
  simp only [Function.comp_apply]
  rw [hst_cons]
  rfl
theorem RRS_head {os : List Int} {xs : List Ho} {lags : List Int} (ho : RRS xs lags = os) (h0 : 0 < os.length) :
    ∃ h1 : 0 < lags.length, os[0] = RT xs lags[0] ∧ RR xs lags[0] = os[0] ∧ RRS (bump xs os[0]) (lags.drop 1) = os.drop 1 := by
  obtain ⟨h1, h2, h3, h4, h5⟩ := RRS_some ho h0
  have hl : 0 < lags.length := by omega
  match lags, hl with
  | l :: r, _ =>
    have e1 : os = RT xs l :: rds (bump xs (RT xs l)) r r.length := by rw [h4]; exact rds_cons xs l r r.length
    subst e1
    simp only [allL, List.all_cons, Bool.and_eq_true] at h3
    refine ⟨by simp, rfl, RR_ok h1 h3.1, ?_⟩
    simp only [List.getElem_cons_zero, List.drop_succ_cons, List.drop_zero]
    exact RRS_ok (VH_bump h1 l) (by simp at h2; omega) h3.2
theorem bump_full {xs : List Ho} {j : Nat} (h : j < xs.length) (hv : xs.all okH = true) (h1 : ¬ xs[j].1 < 100) : bump xs (j : Int) = xs := by
  have := okH_at hv h
  rw [bump_at h]
  apply List.ext_getElem
  · rw [setL_len]
  · intro k h2 h3
    rw [setL_at _ h k h3]
    split
    · rename_i e; subst e
      ext <;> simp; omega
    · rfl
theorem AL_bump {xs : List Ho} {j : Nat} (h : j < xs.length) (hv : VH xs = true) (h1 : xs[j].1 < 100) (hb : VH (bump xs (j : Int)) = true) : AL xs (j : Int) 1 = some (bump xs (j : Int)) := by
  have hl := VH_len hv
  have e : adl xs j 1 = bump xs (j : Int) := by rw [adl_at h, bump_at h]; congr 1; omega
  rw [AL_ok rfl hv (inB_true (by omega) (by omega)) (by decide) (by rw [e]; exact hb), e]
end Go.Proofs.Ytbpadfeplmmeeaa
