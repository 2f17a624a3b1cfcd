/- The walks of laws.FnAddLoad and laws.FnAddLoadBack. -/
import Derived.Test.YtbpadfeplmmeeaaWAl
import Derived.Test.YtbpadfeplmmeeaaDrR
namespace Go.Proofs.Ytbpadfeplmmeeaa
open Go.RowKit
theorem adl_len (xs : List Ho) (i : Nat) (v : Int) : (adl xs i v).length = xs.length := by simp [adl, setL_len]
theorem adl_getElem {xs : List Ho} {i : Nat} (v : Int) (h : i < xs.length) (k : Nat) (hk : k < xs.length) : (adl xs i v)[k]'(by rw [adl_len]; exact hk) = if k = i then (xs[k].1 + v, xs[k].2) else xs[k] := by
  have := setL_at (xs[i].1 + v) h k hk
  simp only [adl_at h]
  rw [this]
  split
  · rename_i e; subst e; rfl
  · rfl
theorem adl_back {xs : List Ho} {i : Nat} (v : Int) (h : i < xs.length) : adl (adl xs i v) i (-v) = xs := by
  apply List.ext_getElem
  · rw [adl_len, adl_len]
  · intro k h1 h2
    have h3 : k < (adl xs i v).length := by rw [adl_len]; exact h2
    rw [adl_getElem (xs := adl xs i v) (-v) (by rw [adl_len]; exact h) k h3, adl_getElem v h k h2]
    by_cases e : k = i
    · simp only [if_pos e]
      ext <;> simp; omega
    · simp only [if_neg e]
theorem AL_some {xs zs : List Ho} {host load : Int} (h : AL xs host load = some zs) : ∃ i : Nat, host = (i : Int) ∧ i < xs.length ∧ zs = adl xs i load ∧ VH xs = true ∧ VH zs = true ∧ -100 ≤ load ∧ load ≤ 100 ∧ AL zs host (-load) = some xs := by
  unfold AL at h
  split at h
  · rename_i h1
    obtain ⟨h1, h2, h3, h4⟩ := h1
    injection h with h
    have a := inB_iff.1 h2
    have b := inB_iff.1 h3
    have hl := VH_len h1
    obtain ⟨i, rfl⟩ : ∃ i : Nat, host = (i : Int) := ⟨host.toNat, by omega⟩
    rw [Int.toNat_natCast] at h h4
    subst h
    have hi : i < xs.length := by omega
    refine ⟨i, rfl, hi, rfl, h1, h4, b.1, b.2, ?_⟩
    rw [AL_ok rfl h4 (by rw [adl_len]; exact h2) (inB_true (by omega) (by omega)) (by rw [adl_back load hi]; exact h1), adl_back load hi]
  · cases h
theorem al_yes {xs zs : List Ho} {host load : Int} {A : Option Addr} {c : Nat} {w : World} (ho : AL xs host load = some zs) (h : SlH w A c xs) :
    Calls Try.prog 11 #[.slice A xs.length c, .int .i64 host, .int .i64 load] w fun e w' => ∃ P p, e = .returned (.tuple #[.slice P zs.length p, .bool true]) ∧ SlH w' P p zs ∧ Below w.heap.size w w' :=
  (al_any A c xs host load w h).mono fun e w' hh => by
    obtain ⟨P, p, he, hr, hb⟩ := hh
    rw [ho] at he hr
    exact ⟨P, p, he, RwH.sl hr, hb⟩
theorem al_no {xs : List Ho} {host load : Int} {A : Option Addr} {c : Nat} {w : World} (ho : AL xs host load = none) (h : SlH w A c xs) :
    Calls Try.prog 11 #[.slice A xs.length c, .int .i64 host, .int .i64 load] w fun e w' => ∃ P p, e = .returned (.tuple #[.slice P 0 p, .bool false]) ∧ SlH w' P p [] ∧ Below w.heap.size w w' :=
  (al_any A c xs host load w h).mono fun e w' hh => by
    obtain ⟨P, p, he, hr, hb⟩ := hh
    rw [ho] at he hr
    exact ⟨P, p, he, RwH.sl hr, hb⟩
theorem sal_yes {xs zs : List Ho} {host load : Int} {A : Option Addr} {c : Nat} {w : World} (ho : AL xs host load = some zs) (h : SlH w A c xs) :
    Calls Try.prog 12 #[.slice A xs.length c, .int .i64 host, .int .i64 load] w fun e w' => ∃ P p, e = .returned (.tuple #[.slice P zs.length p, .bool true]) ∧ SlH w' P p zs ∧ Below w.heap.size w w' :=
  (sal_any A c xs host load w h).mono fun e w' hh => by
    obtain ⟨P, p, he, hr, hb⟩ := hh
    rw [ho] at he hr
    exact ⟨P, p, he, RwH.sl hr, hb⟩
theorem sal_no {xs : List Ho} {host load : Int} {A : Option Addr} {c : Nat} {w : World} (ho : AL xs host load = none) (h : SlH w A c xs) :
    Calls Try.prog 12 #[.slice A xs.length c, .int .i64 host, .int .i64 load] w fun e w' => ∃ P p, e = .returned (.tuple #[.slice P 0 p, .bool false]) ∧ SlH w' P p [] ∧ Below w.heap.size w w' :=
  (sal_any A c xs host load w h).mono fun e w' hh => by
    obtain ⟨P, p, he, hr, hb⟩ := hh
    rw [ho] at he hr
    exact ⟨P, p, he, RwH.sl hr, hb⟩
set_option maxRecDepth 100000 in
set_option maxHeartbeats 4000000 in
theorem lawAddLoad (A : Option Addr) (n c : Nat) (w : World) (h : SlB w A n c) :
    Calls Try.prog 3 #[.slice A n c] w fun e w' => e = .returned (.bool true) ∧ Below w.heap.size w w' := by
  have hmax := h.2.1
  have hcap := h.1
  unfold maxLen at hmax
  by_cases hn : 1048576 < n
  · go_enter Try.func3, Try.ntmps3
    go_wp2
    go_ret
    exact ⟨rfl, Below.refl _ _⟩
  · go_enter Try.func3, Try.ntmps3
    go_wp2_with fail
    refine (drawAddLoad_any A n c w h).mono ?_
    rintro e w1 ⟨B, d, ys, host, load, rfl, s, hl1, hl, hhost, hload, hb⟩
    have hbm := s.max
    have hbc := s.cap
    unfold maxLen at hbm
    cases ho : AL ys host load with
    | none =>
      have HO := hd ho
      have HE := hd (eqHo_self [])
      clear ho
      go_wp2_with fail
      refine (al_no HO.out s).mono ?_
      rintro e w1 ⟨P, p, rfl, r, hx⟩
      replace s := s.ext hx; replace hb := ext_trans hb hx; clear hx
      go_wp2_with fail
      refine (sal_no HO.out s).mono ?_
      rintro e w1 ⟨Q, q, rfl, t, hx⟩
      replace s := s.ext hx; replace r := r.ext hx; replace hb := ext_trans hb hx; clear hx
      go_wp2_with fail
      refine (equalHosts_any _ _ _ _ [] [] _ r t).mono ?_
      rintro e w1 ⟨rfl, hx⟩
      replace s := s.ext hx; replace r := r.ext hx; replace t := t.ext hx; replace hb := ext_trans hb hx; clear hx
      rw [HE.out]
      go_wp2_with fail
      refine (equalHosts_any _ _ _ _ [] [] _ r t).mono ?_
      rintro e w1 ⟨rfl, hx⟩
      replace s := s.ext hx; replace r := r.ext hx; replace t := t.ext hx; replace hb := ext_trans hb hx; clear hx
      rw [HE.out]
      go_wp2
      go_ret
      exact ⟨rfl, hb⟩
    | some zs =>
      obtain ⟨i, hi, hil, hzs, hv1, hv2, hlo1, hlo2, hback⟩ := AL_some ho
      subst hi
      have HO := hd ho
      have HK := hd hback
      have HZ := hd hzs
      have HE := hd (eqHo_self zs)
      have HE2 := hd (eqHo_self ys)
      have hzl : zs.length = ys.length := by rw [hzs, adl_len]
      have hz1 : ys.length ≤ zs.length := by omega
      have hz2 : 0 < zs.length := by omega
      have HZL := hd hzl
      clear ho hback hzs hzl
      go_wp2_with fail
      refine (al_yes HO.out s).mono ?_
      rintro e w1 ⟨P, p, rfl, r, hx⟩
      replace s := s.ext hx; replace hb := ext_trans hb hx; clear hx
      go_wp2_with fail
      refine (sal_yes HO.out s).mono ?_
      rintro e w1 ⟨Q, q, rfl, t, hx⟩
      replace s := s.ext hx; replace r := r.ext hx; replace hb := ext_trans hb hx; clear hx
      go_wp2_with fail
      refine (equalHosts_any _ _ _ _ zs zs _ r t).mono ?_
      rintro e w1 ⟨rfl, hx⟩
      replace s := s.ext hx; replace r := r.ext hx; replace t := t.ext hx; replace hb := ext_trans hb hx; clear hx
      rw [HE.out]
      go_wp2_with fail
      refine (al_yes HK.out r).mono ?_
      rintro e w1 ⟨T, u, rfl, b, hx⟩
      replace s := s.ext hx; replace r := r.ext hx; replace hb := ext_trans hb hx; clear hx
      have hrm := r.max
      have hrc := r.cap
      unfold maxLen at hrm
      obtain ⟨ad, rfl, -, -⟩ := s.at0 hl1
      obtain ⟨ad', rfl, -, -⟩ := r.at0 hz2
      have S0 := hd s
      have R0 := hd r
      have B0 := hd b
      have HB := hd hb
      clear s r t b hb
      go_wp2_with fail
      go_loopw [12] (fun i wr => ∃ k : Nat, k ≤ ys.length ∧ i = .int .i64 k ∧ Hid (SlH wr (some ad) d ys) ∧ Hid (SlH wr (some ad') p zs) ∧ Hid (SlH wr T u ys) ∧ Below w.heap.size w wr) (fun i _ => ys.length - (intOf i).toNat)
      case atStart => exact ⟨0, by omega, rfl, S0.out, R0.out, B0.out, HB.out⟩
      case round =>
        clear S0 R0 B0 HB
        obtain ⟨k, hk, rfl, S0, R0, B0, hb⟩ := hrel
        by_cases hlt : k < ys.length
        · have hlt' : k < zs.length := by omega
          obtain ⟨c0, c1, c2⟩ := SlH.at3 S0.out hlt
          obtain ⟨e0, e1, e2⟩ := SlH.at3 R0.out hlt'
          have hbl : ad'.block < wr.heap.size := by obtain ⟨q, hq, hq1, -⟩ := R0.out.at0 hz2; injection hq with hq; subst hq; exact hq1
          have d0 := fun o => (World.cell?_alloc_lt wr o _ (by rw [blk_add]; exact hbl)).trans e0
          have d1 := fun o => (World.cell?_alloc_lt wr o ⟨(ad'.add (k * 3)).block, (ad'.add (k * 3)).off + 1, none⟩ (by show (ad'.add (k * 3)).block < _; rw [blk_add]; exact hbl)).trans e1
          have d2 := fun o => (World.cell?_alloc_lt wr o ⟨(ad'.add (k * 3)).block, (ad'.add (k * 3)).off + 2, none⟩ (by show (ad'.add (k * 3)).block < _; rw [blk_add]; exact hbl)).trans e2
          have g1 : decide ((zs.length : Int) ≤ (k : Int)) = false := decide_eq_false (by omega)
          have g1' : decide (zs.length ≤ k) = false := decide_eq_false (by omega)
          have hz : zs[k] = if k = i then (ys[k].1 + load, ys[k].2) else ys[k] := by
            have := adl_getElem load hil k hlt
            rw [← this]
            exact getElem_congr_coll HZ.out
          have gH := gH
          by_cases hki : k = i
          · have g2 : ((k : Int) == (i : Int)) = true := beq_iff_eq.2 (by omega)
            have g2' : (k == i) = true := beq_iff_eq.2 hki
            have hn : ∀ W, (binOp .neq 30 (.agg #[.int .i64 zs[k].1, .int .i64 zs[k].2.1, .bool zs[k].2.2]) (.agg #[.int .i64 (ys[k].1 + load), .int .i64 ys[k].2.1, .bool ys[k].2.2])).run Try.prog W = .ok (.bool false) W := fun W => by rw [neqH, hz, if_pos hki]; simp
            have hld : 0 ≤ ys[k].1 ∧ ys[k].1 ≤ 100 := by
              have := List.all_eq_true.1 (VH_ok hv1) _ (List.getElem_mem hlt)
              simp only [okH, Bool.and_eq_true] at this
              exact inB_iff.1 this.1
            clear hz hki e0 e1 e2
            go_wp2_with fail
            go_quiet (fail)
            go_wp2
            go_roundw
            case rel => exact ⟨k + 1, by omega, by go_num, Sl.alloc S0.out _, Sl.alloc R0.out _, Sl.alloc B0.out _, below_drewN (ext_alloc hb _) _⟩
            case measure => simp [intOf]; omega
          · have g2 : ((k : Int) == (i : Int)) = false := beq_eq_false_iff_ne.2 (by omega)
            have g2' : (k == i) = false := beq_eq_false_iff_ne.2 hki
            have hn : ∀ W, (binOp .neq 30 (.agg #[.int .i64 zs[k].1, .int .i64 zs[k].2.1, .bool zs[k].2.2]) (.agg #[.int .i64 ys[k].1, .int .i64 ys[k].2.1, .bool ys[k].2.2])).run Try.prog W = .ok (.bool false) W := fun W => by rw [neqH, hz, if_neg hki]; simp
            clear hz hki e0 e1 e2
            go_wp2_with fail
            go_quiet (fail)
            go_wp2
            go_roundw
            case rel => exact ⟨k + 1, by omega, by go_num, Sl.alloc S0.out _, Sl.alloc R0.out _, Sl.alloc B0.out _, below_drewN (ext_alloc hb _) _⟩
            case measure => simp [intOf]; omega
        · obtain rfl : k = ys.length := by omega
          have b := B0.out
          have s := S0.out
          go_wp2_with fail
          refine (equalHosts_any _ _ _ _ ys ys _ b s).mono ?_
          rintro e w1 ⟨rfl, hx⟩
          replace hb := ext_trans hb hx; clear hx
          rw [HE2.out]
          go_wp2
          go_ret
          exact ⟨rfl, hb⟩
theorem AL_none_in {xs : List Ho} {i : Nat} {load : Int} (h : AL xs (i : Int) load = none) (hv : VH xs = true) (hi : i < xs.length) (h1 : -100 ≤ load) (h2 : load ≤ 100) : ¬ (0 ≤ xs[i].1 + load ∧ xs[i].1 + load ≤ 100) := fun ⟨h3, h4⟩ => by
  have hl := VH_len hv
  have : VH (adl xs i load) = true := by
    simp only [VH, Bool.and_eq_true]
    refine ⟨by rw [adl_len]; exact inB_true (by omega) (by omega), ?_, ?_⟩
    · rw [lag0_at (by rw [adl_len]; omega)]
      have h0 := VH_lag hv
      rw [lag0_at (by omega)] at h0
      rw [adl_getElem load hi 0 (by omega)]
      split <;> exact h0
    · rw [List.all_eq_true]
      intro x hx
      obtain ⟨k, hk, rfl⟩ := List.mem_iff_getElem.1 hx
      have hk' : k < xs.length := by rwa [adl_len] at hk
      have ok := List.all_eq_true.1 (VH_ok hv) _ (List.getElem_mem hk')
      rw [adl_getElem load hi k hk']
      split
      · rename_i e; subst e
        simp only [okH, Bool.and_eq_true] at ok ⊢
        exact ⟨inB_true h3 h4, ok.2⟩
      · exact ok
  rw [AL_ok rfl hv (inB_true (by omega) (by omega)) (inB_true h1 h2) this] at h
  cases h
theorem AL_some_in {xs zs : List Ho} {i : Nat} {load : Int} (h : AL xs (i : Int) load = some zs) (hi : i < xs.length) : 0 ≤ xs[i].1 + load ∧ xs[i].1 + load ≤ 100 := by
  obtain ⟨j, hj, hjl, hz, _, hv, _⟩ := AL_some h
  obtain rfl : i = j := by omega
  subst hz
  have ok := List.all_eq_true.1 (VH_ok hv) _ (List.getElem_mem (show i < (adl xs i load).length by rw [adl_len]; exact hi))
  rw [adl_getElem load hi i hi, if_pos rfl] at ok
  simp only [okH, Bool.and_eq_true] at ok
  exact inB_iff.1 ok.1
set_option maxRecDepth 100000 in
set_option maxHeartbeats 4000000 in
theorem lawAddLoadBack (A : Option Addr) (n c : Nat) (w : World) (h : SlB w A n c) :
    Calls Try.prog 4 #[.slice A n c] w fun e w' => e = .returned (.bool true) ∧ Below w.heap.size w w' := by
  have hmax := h.2.1
  have hcap := h.1
  unfold maxLen at hmax
  by_cases hn : 1048576 < n
  · go_enter Try.func4, Try.ntmps4
    go_wp2
    go_ret
    exact ⟨rfl, Below.refl _ _⟩
  · go_enter Try.func4, Try.ntmps4
    go_wp2_with fail
    refine (drawAddLoad_any A n c w h).mono ?_
    rintro e w1 ⟨B, d, ys, host, load, rfl, s, hl1, hl, hhost, hload, hb⟩
    have hbm := s.max
    have hbc := s.cap
    unfold maxLen at hbm
    cases ho : AL ys host load with
    | none =>
      have HO := hd ho
      have HE := hd (eqHo_self [])
      clear ho
      go_wp2_with fail
      refine (al_no HO.out s).mono ?_
      rintro e w1 ⟨P, p, rfl, r, hx⟩
      replace s := s.ext hx; replace hb := ext_trans hb hx; clear hx
      go_wp2_with fail
      refine (sal_no HO.out s).mono ?_
      rintro e w1 ⟨Q, q, rfl, t, hx⟩
      replace s := s.ext hx; replace r := r.ext hx; replace hb := ext_trans hb hx; clear hx
      go_wp2_with fail
      refine (equalHosts_any _ _ _ _ [] [] _ r t).mono ?_
      rintro e w1 ⟨rfl, hx⟩
      replace s := s.ext hx; replace r := r.ext hx; replace t := t.ext hx; replace hb := ext_trans hb hx; clear hx
      rw [HE.out]
      go_wp2_with fail
      refine (vh_any _ _ _ _ s).mono ?_
      rintro e w1 ⟨rfl, hx⟩
      replace s := s.ext hx; replace r := r.ext hx; replace t := t.ext hx; replace hb := ext_trans hb hx; clear hx
      have fin : ∀ (W : World), Below w.heap.size w W → True := fun _ _ => trivial
      cases hv : VH ys with
      | false =>
        go_wp2_with fail
        refine (equalHosts_any _ _ _ _ [] [] _ r t).mono ?_
        rintro e w1 ⟨rfl, hx⟩
        replace s := s.ext hx; replace r := r.ext hx; replace t := t.ext hx; replace hb := ext_trans hb hx; clear hx
        rw [HE.out]
        go_wp2
        go_ret
        exact ⟨rfl, hb⟩
      | true =>
        by_cases k1 : host < 0
        · have g1 : decide (host < 0) = true := decide_eq_true k1
          go_wp2_with fail
          refine (equalHosts_any _ _ _ _ [] [] _ r t).mono ?_
          rintro e w1 ⟨rfl, hx⟩
          replace s := s.ext hx; replace r := r.ext hx; replace t := t.ext hx; replace hb := ext_trans hb hx; clear hx
          rw [HE.out]
          go_wp2
          go_ret
          exact ⟨rfl, hb⟩
        · have g1 : decide (host < 0) = false := decide_eq_false k1
          by_cases k2 : (ys.length : Int) ≤ host
          · have g2 : decide ((ys.length : Int) ≤ host) = true := decide_eq_true k2
            go_wp2_with fail
            refine (equalHosts_any _ _ _ _ [] [] _ r t).mono ?_
            rintro e w1 ⟨rfl, hx⟩
            replace s := s.ext hx; replace r := r.ext hx; replace t := t.ext hx; replace hb := ext_trans hb hx; clear hx
            rw [HE.out]
            go_wp2
            go_ret
            exact ⟨rfl, hb⟩
          · have g2 : decide ((ys.length : Int) ≤ host) = false := decide_eq_false k2
            have g3 : decide (load < -100) = false := decide_eq_false (by omega)
            by_cases k4 : 100 < load
            · have g4 : decide (100 < load) = true := decide_eq_true k4
              go_wp2_with fail
              refine (equalHosts_any _ _ _ _ [] [] _ r t).mono ?_
              rintro e w1 ⟨rfl, hx⟩
              replace s := s.ext hx; replace r := r.ext hx; replace t := t.ext hx; replace hb := ext_trans hb hx; clear hx
              rw [HE.out]
              go_wp2
              go_ret
              exact ⟨rfl, hb⟩
            · have g4 : decide (100 < load) = false := decide_eq_false k4
              obtain ⟨i, hi⟩ : ∃ i : Nat, host = (i : Int) := ⟨host.toNat, by omega⟩
              subst hi
              have hil : i < ys.length := by omega
              have hno := AL_none_in HO.out hv hil (by omega) (by omega)
              obtain ⟨ad, rfl, -, -⟩ := s.at0 hl1
              obtain ⟨c0, -, -⟩ := SlH.at3 s hil
              have hld : 0 ≤ ys[i].1 ∧ ys[i].1 ≤ 100 := by
                have := List.all_eq_true.1 (VH_ok hv) _ (List.getElem_mem hil)
                simp only [okH, Bool.and_eq_true] at this
                exact inB_iff.1 this.1
              by_cases k5 : 0 ≤ ys[i].1 + load
              · have g5 : decide (0 ≤ ys[i].1 + load) = true := decide_eq_true k5
                have g6 : decide (ys[i].1 + load ≤ 100) = false := decide_eq_false (fun k6 => hno ⟨k5, k6⟩)
                go_wp2
                go_ret
                exact ⟨rfl, hb⟩
              · have g5 : decide (0 ≤ ys[i].1 + load) = false := decide_eq_false k5
                go_wp2
                go_ret
                exact ⟨rfl, hb⟩
    | some zs =>
      obtain ⟨i, hi, hil, hzs, hv1, hv2, hlo1, hlo2, hback⟩ := AL_some ho
      subst hi
      have hin := AL_some_in ho hil
      have HO := hd ho
      have HE := hd (eqHo_self zs)
      have g1 : decide ((i : Int) < 0) = false := decide_eq_false (by omega)
      have g2 : decide ((ys.length : Int) ≤ (i : Int)) = false := decide_eq_false (by omega)
      have g2' : decide (ys.length ≤ i) = false := decide_eq_false (by omega)
      have g3 : decide (load < -100) = false := decide_eq_false (by omega)
      have g4 : decide (100 < load) = false := decide_eq_false (by omega)
      have g5 : decide (0 ≤ ys[i].1 + load) = true := decide_eq_true hin.1
      have g6 : decide (ys[i].1 + load ≤ 100) = true := decide_eq_true hin.2
      have hld : 0 ≤ ys[i].1 ∧ ys[i].1 ≤ 100 := by
        have := List.all_eq_true.1 (VH_ok hv1) _ (List.getElem_mem hil)
        simp only [okH, Bool.and_eq_true] at this
        exact inB_iff.1 this.1
      clear ho hback hzs
      go_wp2_with fail
      refine (al_yes HO.out s).mono ?_
      rintro e w1 ⟨P, p, rfl, r, hx⟩
      replace s := s.ext hx; replace hb := ext_trans hb hx; clear hx
      go_wp2_with fail
      refine (sal_yes HO.out s).mono ?_
      rintro e w1 ⟨Q, q, rfl, t, hx⟩
      replace s := s.ext hx; replace r := r.ext hx; replace hb := ext_trans hb hx; clear hx
      go_wp2_with fail
      refine (equalHosts_any _ _ _ _ zs zs _ r t).mono ?_
      rintro e w1 ⟨rfl, hx⟩
      replace s := s.ext hx; replace r := r.ext hx; replace t := t.ext hx; replace hb := ext_trans hb hx; clear hx
      rw [HE.out]
      go_wp2_with fail
      refine (vh_any _ _ _ _ s).mono ?_
      rintro e w1 ⟨rfl, hx⟩
      replace s := s.ext hx; replace r := r.ext hx; replace t := t.ext hx; replace hb := ext_trans hb hx; clear hx
      rw [hv1]
      obtain ⟨ad, rfl, -, -⟩ := s.at0 hl1
      obtain ⟨c0, -, -⟩ := SlH.at3 s hil
      go_wp2
      go_ret
      exact ⟨rfl, hb⟩
end Go.Proofs.Ytbpadfeplmmeeaa
