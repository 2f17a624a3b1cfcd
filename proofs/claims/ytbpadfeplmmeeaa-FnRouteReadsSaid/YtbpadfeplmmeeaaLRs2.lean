/- The walk of laws.FnRouteReads. -/
import Derived.Test.YtbpadfeplmmeeaaLRs1
namespace Go.Proofs.Ytbpadfeplmmeeaa
open Go.RowKit
theorem SlI.z0 {w : World} {ad : Addr} {c : Nat} {xs : List Int} (h : SlI w (some ad) c xs) (h0 : 0 < xs.length) : w.cell? ad = some (.int .i64 xs[0]) := SlI.at1 h h0
set_option maxRecDepth 100000 in
set_option maxHeartbeats 4000000 in
theorem lawRouteReads (A : Option Addr) (n c : Nat) (w : World) (h : SlB w A n c) :
    Calls Try.prog 8 #[.slice A n c] w fun e w' => e = .returned (.bool true) ∧ Below w.heap.size w w' := by
  have hmax := h.2.1
  have hcap := h.1
  unfold maxLen at hmax
  by_cases hn : 1048576 < n
  · go_enter Try.func8, Try.ntmps8
    go_wp2
    go_ret
    exact ⟨rfl, Below.refl _ _⟩
  · go_enter Try.func8, Try.ntmps8
    go_wp2_with fail
    refine (drawRouteReads_any A n c w h).mono ?_
    rintro e w1 ⟨B, B', d, d', ys, zs, rfl, s, s', hl1, hl, hzl, hb⟩
    have hbm := s'.max
    have hbc := s'.cap
    unfold maxLen at hbm
    have hym := s.max
    have hyc := s.cap
    unfold maxLen at hym
    obtain ⟨os, ho⟩ : ∃ os, RRS ys zs = os := ⟨_, rfl⟩
    have HO := hd ho
    have HE := hd (sameI_self os)
    go_wp2_with fail
    refine (rrs_is HO.out s s' rfl rfl).mono ?_
    rintro e w1 ⟨P, p, rfl, r, hx⟩
    replace s := s.ext hx; replace s' := s'.ext hx; replace hb := ext_trans hb hx; clear hx
    go_wp2_with fail
    refine (srrs_is HO.out s s' rfl rfl).mono ?_
    rintro e w1 ⟨Q, q, rfl, t, hx⟩
    replace s := s.ext hx; replace s' := s'.ext hx; replace r := r.ext hx; replace hb := ext_trans hb hx; clear hx
    go_wp2_with fail
    refine (eqIN_any r t rfl rfl).mono ?_
    rintro e w1 ⟨rfl, hx⟩
    replace s := s.ext hx; replace s' := s'.ext hx; replace r := r.ext hx; replace hb := ext_trans hb hx; clear hx
    rw [HE.out]
    clear t
    by_cases h0 : os.length = 0
    · have g0 : ((os.length : Int) == 0) = true := by simp [h0]
      have g0' : (os.length == 0) = true := by simp [h0]
      clear ho h0
      go_wp2_with fail
      refine (srrs_is HO.out s s' rfl rfl).mono ?_
      rintro e w1 ⟨Q, q, rfl, t, hx⟩
      replace s := s.ext hx; replace s' := s'.ext hx; replace r := r.ext hx; replace hb := ext_trans hb hx; clear hx
      go_wp2_with fail
      refine (eqIN_any r t rfl rfl).mono ?_
      rintro e w1 ⟨rfl, hx⟩
      replace hb := ext_trans hb hx; clear hx
      rw [HE.out]
      go_wp2
      go_ret
      exact ⟨rfl, hb⟩
    · have g0 : ((os.length : Int) == 0) = false := beq_eq_false_iff_ne.2 (by omega)
      have g0' : (os.length == 0) = false := beq_eq_false_iff_ne.2 h0
      have hop : 0 < os.length := by omega
      obtain ⟨hv, -, -, -, hol⟩ := RRS_some ho hop
      obtain ⟨hz0, e0, eR, eT⟩ := RRS_head ho hop
      obtain ⟨qs, hqs⟩ : ∃ qs, qs = os.drop 1 := ⟨_, rfl⟩
      rw [← hqs] at eT
      obtain ⟨ls, hls⟩ : ∃ ls, ls = zs.drop 1 := ⟨_, rfl⟩
      have HM1 := hd (show zs.length - 1 = (zs.drop 1).length by rw [List.length_drop])
      have HM2 := hd (show os.length - 1 = qs.length by rw [hqs, List.length_drop])
      have HE2 := hd (sameI_self qs)
      have HQ := hd hqs
      obtain ⟨adr, rfl, -, -⟩ := r.at hop
      obtain ⟨adz, rfl, -, -⟩ := s'.at hz0
      obtain ⟨ady, rfl, -, -⟩ := s.at0 hl1
      have rm := r.max
      have rc := r.cap
      unfold maxLen at rm
      have hrt : ∀ W, SlI W (some adr) p os → SlI W (if p = 1 then some adr else Option.map (fun x => x.add (1 * 1)) (some adr)) (p - 1) qs := fun W hW => by rw [HQ.out]; exact SlI.drop hW (m := 1) hop
      have HRT := hd hrt
      clear ho h0 hol hqs hrt hls
      rcases RT_bound ys zs[0] with e | ⟨j, e, hj⟩
      · have HO0 := hd (show os[0] = -1 by rw [e0, e])
        have HRR := hd (show RR ys zs[0] = -1 by rw [eR, HO0.out])
        have HT := hd (show RRS ys (zs.drop 1) = qs by rw [← eT, HO0.out, bump_neg (by omega)])
        clear e e0 eR eT
        by_cases hq1 : d' = 1
        · subst hq1
          have HK1 := hd (show 0 = (zs.drop 1).length by rw [List.length_drop]; omega)
          have HZC := hd (fun W (hW : SlI W (some adz) 1 zs) => (show SlI W (some adz) 0 (zs.drop 1) from SlI.drop hW (m := 1) hz0))
          by_cases hq2 : p = 1
          · subst hq2
            have HK2 := hd (show 0 = qs.length by rw [← HM2.out]; omega)
            have HRC := hd (fun W (hW : SlI W (some adr) 1 os) => (show SlI W (some adr) 0 qs by have := HRT.out W hW; exact this))
            have sD : SlH w1.drew (some ady) d ys := s
            have sT : SlI w1.drew (some adz) 1 zs := s'
            have sR : SlI w1.drew (some adr) 1 os := r
            have sN : SlH w1.drew _ _ _ := s
            have q1 : (1 : Int) ≤ (zs.length : Int) := by omega
            have q2 : (1 : Int) ≤ (os.length : Int) := by omega
            have q3 : (zs.length : Int) ≤ ((1 : Nat) : Int) := by omega
            have q4 : (os.length : Int) ≤ ((1 : Nat) : Int) := by omega
            have hD := ext_drew hb
            have c1 : w1.cell? adr = some (.int .i64 (-1)) := (SlI.z0 r hop).trans (by rw [HO0.out])
            have z1 : w1.cell? adz = some (.int .i64 zs[0]) := SlI.z0 s' hz0
            go_wp2_with fail
            go_region_held3 (fun W => W.cell? adr = some (.int .i64 (-1)) ∧ W.cell? adz = some (.int .i64 zs[0])) (first | go_keep | (go_split_ands; exact ⟨c6, z6⟩) | (go_split_ands; exact ⟨c7, z7⟩) | (go_split_ands; exact ⟨c8, z8⟩)) (first | (go_at_call 24; refine (rr_any _ _ _ _ _ sD).mono ?_; rintro e w6 ⟨rfl, hx⟩; rw [HRR.out]; have sT6 := sT.ext hx; have sR6 := sR.ext hx; have sN6 := sN.ext hx; have hb6 := ext_trans hD hx; have c6 : w6.cell? adr = some (.int .i64 (-1)) := (SlI.z0 sR6 hop).trans (by rw [HO0.out]); have z6 : w6.cell? adz = some (.int .i64 zs[0]) := SlI.z0 sT6 hz0; clear hx) | (go_at_call 21; refine (rrs_is HT.out sN6 (HZC.out _ sT6) rfl HK1.out).mono ?_; rintro e w7 ⟨R7, u7, rfl, v7, hx⟩; have sR7 := sR6.ext hx; have sT7 := sT6.ext hx; have hb7 := ext_trans hb6 hx; have c7 : w7.cell? adr = some (.int .i64 (-1)) := (SlI.z0 sR7 hop).trans (by rw [HO0.out]); have z7 : w7.cell? adz = some (.int .i64 zs[0]) := SlI.z0 sT7 hz0; clear hx) | (go_at_call 22; refine (eqIN_any v7 (HRC.out _ sR7) rfl HK2.out).mono ?_; rintro e w8 ⟨rfl, hx⟩; have sR8 := sR7.ext hx; have sT8 := sT7.ext hx; have hb8 := ext_trans hb7 hx; have c8 : w8.cell? adr = some (.int .i64 (-1)) := (SlI.z0 sR8 hop).trans (by rw [HO0.out]); have z8 : w8.cell? adz = some (.int .i64 zs[0]) := SlI.z0 sT8 hz0; clear hx; rw [HE2.out]))
            go_wp2
            go_ret
            exact ⟨rfl, hb8⟩
          · have hq4 : 2 ≤ p := by omega
            have HK2 := HM2
            have HRC := hd (fun W (hW : SlI W (some adr) p os) => (show SlI W (some (adr.add 1)) (p - 1) qs by have := HRT.out W hW; rw [if_neg hq2] at this; exact this))
            have sD : SlH w1.drew (some ady) d ys := s
            have sT : SlI w1.drew (some adz) 1 zs := s'
            have sR : SlI w1.drew (some adr) p os := r
            have sN : SlH w1.drew _ _ _ := s
            have q1 : (1 : Int) ≤ (zs.length : Int) := by omega
            have q2 : (1 : Int) ≤ (os.length : Int) := by omega
            have q3 : (zs.length : Int) ≤ ((1 : Nat) : Int) := by omega
            have q4 : (os.length : Int) ≤ ((p : Nat) : Int) := by omega
            have hD := ext_drew hb
            have c1 : w1.cell? adr = some (.int .i64 (-1)) := (SlI.z0 r hop).trans (by rw [HO0.out])
            have z1 : w1.cell? adz = some (.int .i64 zs[0]) := SlI.z0 s' hz0
            go_wp2_with fail
            go_region_held3 (fun W => W.cell? adr = some (.int .i64 (-1)) ∧ W.cell? adz = some (.int .i64 zs[0])) (first | go_keep | (go_split_ands; exact ⟨c6, z6⟩) | (go_split_ands; exact ⟨c7, z7⟩) | (go_split_ands; exact ⟨c8, z8⟩)) (first | (go_at_call 24; refine (rr_any _ _ _ _ _ sD).mono ?_; rintro e w6 ⟨rfl, hx⟩; rw [HRR.out]; have sT6 := sT.ext hx; have sR6 := sR.ext hx; have sN6 := sN.ext hx; have hb6 := ext_trans hD hx; have c6 : w6.cell? adr = some (.int .i64 (-1)) := (SlI.z0 sR6 hop).trans (by rw [HO0.out]); have z6 : w6.cell? adz = some (.int .i64 zs[0]) := SlI.z0 sT6 hz0; clear hx) | (go_at_call 21; refine (rrs_is HT.out sN6 (HZC.out _ sT6) rfl HK1.out).mono ?_; rintro e w7 ⟨R7, u7, rfl, v7, hx⟩; have sR7 := sR6.ext hx; have sT7 := sT6.ext hx; have hb7 := ext_trans hb6 hx; have c7 : w7.cell? adr = some (.int .i64 (-1)) := (SlI.z0 sR7 hop).trans (by rw [HO0.out]); have z7 : w7.cell? adz = some (.int .i64 zs[0]) := SlI.z0 sT7 hz0; clear hx) | (go_at_call 22; refine (eqIN_any v7 (HRC.out _ sR7) rfl HK2.out).mono ?_; rintro e w8 ⟨rfl, hx⟩; have sR8 := sR7.ext hx; have sT8 := sT7.ext hx; have hb8 := ext_trans hb7 hx; have c8 : w8.cell? adr = some (.int .i64 (-1)) := (SlI.z0 sR8 hop).trans (by rw [HO0.out]); have z8 : w8.cell? adz = some (.int .i64 zs[0]) := SlI.z0 sT8 hz0; clear hx; rw [HE2.out]))
            go_wp2
            go_ret
            exact ⟨rfl, hb8⟩
        · have hq3 : 2 ≤ d' := by omega
          have HK1 := HM1
          have HZC := hd (fun W (hW : SlI W (some adz) d' zs) => (show SlI W (some (adz.add 1)) (d' - 1) (zs.drop 1) by have := SlI.drop hW (m := 1) hz0; rw [if_neg hq1] at this; exact this))
          by_cases hq2 : p = 1
          · subst hq2
            have HK2 := hd (show 0 = qs.length by rw [← HM2.out]; omega)
            have HRC := hd (fun W (hW : SlI W (some adr) 1 os) => (show SlI W (some adr) 0 qs by have := HRT.out W hW; exact this))
            have sD : SlH w1.drew (some ady) d ys := s
            have sT : SlI w1.drew (some adz) d' zs := s'
            have sR : SlI w1.drew (some adr) 1 os := r
            have sN : SlH w1.drew _ _ _ := s
            have q1 : (1 : Int) ≤ (zs.length : Int) := by omega
            have q2 : (1 : Int) ≤ (os.length : Int) := by omega
            have q3 : (zs.length : Int) ≤ ((d' : Nat) : Int) := by omega
            have q4 : (os.length : Int) ≤ ((1 : Nat) : Int) := by omega
            have hD := ext_drew hb
            have c1 : w1.cell? adr = some (.int .i64 (-1)) := (SlI.z0 r hop).trans (by rw [HO0.out])
            have z1 : w1.cell? adz = some (.int .i64 zs[0]) := SlI.z0 s' hz0
            go_wp2_with fail
            go_region_held3 (fun W => W.cell? adr = some (.int .i64 (-1)) ∧ W.cell? adz = some (.int .i64 zs[0])) (first | go_keep | (go_split_ands; exact ⟨c6, z6⟩) | (go_split_ands; exact ⟨c7, z7⟩) | (go_split_ands; exact ⟨c8, z8⟩)) (first | (go_at_call 24; refine (rr_any _ _ _ _ _ sD).mono ?_; rintro e w6 ⟨rfl, hx⟩; rw [HRR.out]; have sT6 := sT.ext hx; have sR6 := sR.ext hx; have sN6 := sN.ext hx; have hb6 := ext_trans hD hx; have c6 : w6.cell? adr = some (.int .i64 (-1)) := (SlI.z0 sR6 hop).trans (by rw [HO0.out]); have z6 : w6.cell? adz = some (.int .i64 zs[0]) := SlI.z0 sT6 hz0; clear hx) | (go_at_call 21; refine (rrs_is HT.out sN6 (HZC.out _ sT6) rfl HK1.out).mono ?_; rintro e w7 ⟨R7, u7, rfl, v7, hx⟩; have sR7 := sR6.ext hx; have sT7 := sT6.ext hx; have hb7 := ext_trans hb6 hx; have c7 : w7.cell? adr = some (.int .i64 (-1)) := (SlI.z0 sR7 hop).trans (by rw [HO0.out]); have z7 : w7.cell? adz = some (.int .i64 zs[0]) := SlI.z0 sT7 hz0; clear hx) | (go_at_call 22; refine (eqIN_any v7 (HRC.out _ sR7) rfl HK2.out).mono ?_; rintro e w8 ⟨rfl, hx⟩; have sR8 := sR7.ext hx; have sT8 := sT7.ext hx; have hb8 := ext_trans hb7 hx; have c8 : w8.cell? adr = some (.int .i64 (-1)) := (SlI.z0 sR8 hop).trans (by rw [HO0.out]); have z8 : w8.cell? adz = some (.int .i64 zs[0]) := SlI.z0 sT8 hz0; clear hx; rw [HE2.out]))
            go_wp2
            go_ret
            exact ⟨rfl, hb8⟩
          · have hq4 : 2 ≤ p := by omega
            have HK2 := HM2
            have HRC := hd (fun W (hW : SlI W (some adr) p os) => (show SlI W (some (adr.add 1)) (p - 1) qs by have := HRT.out W hW; rw [if_neg hq2] at this; exact this))
            have sD : SlH w1.drew (some ady) d ys := s
            have sT : SlI w1.drew (some adz) d' zs := s'
            have sR : SlI w1.drew (some adr) p os := r
            have sN : SlH w1.drew _ _ _ := s
            have q1 : (1 : Int) ≤ (zs.length : Int) := by omega
            have q2 : (1 : Int) ≤ (os.length : Int) := by omega
            have q3 : (zs.length : Int) ≤ ((d' : Nat) : Int) := by omega
            have q4 : (os.length : Int) ≤ ((p : Nat) : Int) := by omega
            have hD := ext_drew hb
            have c1 : w1.cell? adr = some (.int .i64 (-1)) := (SlI.z0 r hop).trans (by rw [HO0.out])
            have z1 : w1.cell? adz = some (.int .i64 zs[0]) := SlI.z0 s' hz0
            go_wp2_with fail
            go_region_held3 (fun W => W.cell? adr = some (.int .i64 (-1)) ∧ W.cell? adz = some (.int .i64 zs[0])) (first | go_keep | (go_split_ands; exact ⟨c6, z6⟩) | (go_split_ands; exact ⟨c7, z7⟩) | (go_split_ands; exact ⟨c8, z8⟩)) (first | (go_at_call 24; refine (rr_any _ _ _ _ _ sD).mono ?_; rintro e w6 ⟨rfl, hx⟩; rw [HRR.out]; have sT6 := sT.ext hx; have sR6 := sR.ext hx; have sN6 := sN.ext hx; have hb6 := ext_trans hD hx; have c6 : w6.cell? adr = some (.int .i64 (-1)) := (SlI.z0 sR6 hop).trans (by rw [HO0.out]); have z6 : w6.cell? adz = some (.int .i64 zs[0]) := SlI.z0 sT6 hz0; clear hx) | (go_at_call 21; refine (rrs_is HT.out sN6 (HZC.out _ sT6) rfl HK1.out).mono ?_; rintro e w7 ⟨R7, u7, rfl, v7, hx⟩; have sR7 := sR6.ext hx; have sT7 := sT6.ext hx; have hb7 := ext_trans hb6 hx; have c7 : w7.cell? adr = some (.int .i64 (-1)) := (SlI.z0 sR7 hop).trans (by rw [HO0.out]); have z7 : w7.cell? adz = some (.int .i64 zs[0]) := SlI.z0 sT7 hz0; clear hx) | (go_at_call 22; refine (eqIN_any v7 (HRC.out _ sR7) rfl HK2.out).mono ?_; rintro e w8 ⟨rfl, hx⟩; have sR8 := sR7.ext hx; have sT8 := sT7.ext hx; have hb8 := ext_trans hb7 hx; have c8 : w8.cell? adr = some (.int .i64 (-1)) := (SlI.z0 sR8 hop).trans (by rw [HO0.out]); have z8 : w8.cell? adz = some (.int .i64 zs[0]) := SlI.z0 sT8 hz0; clear hx; rw [HE2.out]))
            go_wp2
            go_ret
            exact ⟨rfl, hb8⟩
      · have HO0 := hd (show os[0] = (j : Int) by rw [e0, e])
        have HRR := hd (show RR ys zs[0] = (j : Int) by rw [eR, HO0.out])
        obtain ⟨c0, -, -⟩ := SlH.at3 s hj
        have r0 : w1.cell? adr = some (.int .i64 (j : Int)) := (SlI.z0 r hop).trans (by rw [HO0.out])
        have hok := VH_ok hv
        by_cases hld : ys[j].1 < 100
        · have g1 : decide (ys[j].1 < 100) = true := decide_eq_true hld
          obtain ⟨bs, hbs⟩ : ∃ bs, bs = bump ys (j : Int) := ⟨_, rfl⟩
          have hvb : VH bs = true := by rw [hbs, ← e]; exact VH_bump hv zs[0]
          have HA := hd (show AL ys (j : Int) 1 = some bs by rw [hbs]; exact AL_bump hj hv hld (by rw [← hbs]; exact hvb))
          have HT := hd (show RRS bs (zs.drop 1) = qs by rw [← eT, HO0.out, hbs])
          clear e e0 eR eT hbs
          go_wp2_with fail
          refine (al_yes HA.out s).mono ?_
          rintro e w1 ⟨T, u, rfl, tn, hx⟩
          replace s := s.ext hx; replace s' := s'.ext hx; replace r := r.ext hx; replace hb := ext_trans hb hx; clear hx
          by_cases hq1 : d' = 1
          · subst hq1
            have HK1 := hd (show 0 = (zs.drop 1).length by rw [List.length_drop]; omega)
            have HZC := hd (fun W (hW : SlI W (some adz) 1 zs) => (show SlI W (some adz) 0 (zs.drop 1) from SlI.drop hW (m := 1) hz0))
            by_cases hq2 : p = 1
            · subst hq2
              have HK2 := hd (show 0 = qs.length by rw [← HM2.out]; omega)
              have HRC := hd (fun W (hW : SlI W (some adr) 1 os) => (show SlI W (some adr) 0 qs by have := HRT.out W hW; exact this))
              have sD : SlH w1.drew (some ady) d ys := s
              have sT : SlI w1.drew (some adz) 1 zs := s'
              have sR : SlI w1.drew (some adr) 1 os := r
              have sN : SlH w1.drew _ _ _ := tn
              have q1 : (1 : Int) ≤ (zs.length : Int) := by omega
              have q2 : (1 : Int) ≤ (os.length : Int) := by omega
              have q3 : (zs.length : Int) ≤ ((1 : Nat) : Int) := by omega
              have q4 : (os.length : Int) ≤ ((1 : Nat) : Int) := by omega
              have hD := ext_drew hb
              have c1 : w1.cell? adr = some (.int .i64 (j : Int)) := (SlI.z0 r hop).trans (by rw [HO0.out])
              have z1 : w1.cell? adz = some (.int .i64 zs[0]) := SlI.z0 s' hz0
              go_wp2_with fail
              go_region_held3 (fun W => W.cell? adr = some (.int .i64 (j : Int)) ∧ W.cell? adz = some (.int .i64 zs[0])) (first | go_keep | (go_split_ands; exact ⟨c6, z6⟩) | (go_split_ands; exact ⟨c7, z7⟩) | (go_split_ands; exact ⟨c8, z8⟩)) (first | (go_at_call 24; refine (rr_any _ _ _ _ _ sD).mono ?_; rintro e w6 ⟨rfl, hx⟩; rw [HRR.out]; have sT6 := sT.ext hx; have sR6 := sR.ext hx; have sN6 := sN.ext hx; have hb6 := ext_trans hD hx; have c6 : w6.cell? adr = some (.int .i64 (j : Int)) := (SlI.z0 sR6 hop).trans (by rw [HO0.out]); have z6 : w6.cell? adz = some (.int .i64 zs[0]) := SlI.z0 sT6 hz0; clear hx) | (go_at_call 21; refine (rrs_is HT.out sN6 (HZC.out _ sT6) rfl HK1.out).mono ?_; rintro e w7 ⟨R7, u7, rfl, v7, hx⟩; have sR7 := sR6.ext hx; have sT7 := sT6.ext hx; have hb7 := ext_trans hb6 hx; have c7 : w7.cell? adr = some (.int .i64 (j : Int)) := (SlI.z0 sR7 hop).trans (by rw [HO0.out]); have z7 : w7.cell? adz = some (.int .i64 zs[0]) := SlI.z0 sT7 hz0; clear hx) | (go_at_call 22; refine (eqIN_any v7 (HRC.out _ sR7) rfl HK2.out).mono ?_; rintro e w8 ⟨rfl, hx⟩; have sR8 := sR7.ext hx; have sT8 := sT7.ext hx; have hb8 := ext_trans hb7 hx; have c8 : w8.cell? adr = some (.int .i64 (j : Int)) := (SlI.z0 sR8 hop).trans (by rw [HO0.out]); have z8 : w8.cell? adz = some (.int .i64 zs[0]) := SlI.z0 sT8 hz0; clear hx; rw [HE2.out]))
              go_wp2
              go_ret
              exact ⟨rfl, hb8⟩
            · have hq4 : 2 ≤ p := by omega
              have HK2 := HM2
              have HRC := hd (fun W (hW : SlI W (some adr) p os) => (show SlI W (some (adr.add 1)) (p - 1) qs by have := HRT.out W hW; rw [if_neg hq2] at this; exact this))
              have sD : SlH w1.drew (some ady) d ys := s
              have sT : SlI w1.drew (some adz) 1 zs := s'
              have sR : SlI w1.drew (some adr) p os := r
              have sN : SlH w1.drew _ _ _ := tn
              have q1 : (1 : Int) ≤ (zs.length : Int) := by omega
              have q2 : (1 : Int) ≤ (os.length : Int) := by omega
              have q3 : (zs.length : Int) ≤ ((1 : Nat) : Int) := by omega
              have q4 : (os.length : Int) ≤ ((p : Nat) : Int) := by omega
              have hD := ext_drew hb
              have c1 : w1.cell? adr = some (.int .i64 (j : Int)) := (SlI.z0 r hop).trans (by rw [HO0.out])
              have z1 : w1.cell? adz = some (.int .i64 zs[0]) := SlI.z0 s' hz0
              go_wp2_with fail
              go_region_held3 (fun W => W.cell? adr = some (.int .i64 (j : Int)) ∧ W.cell? adz = some (.int .i64 zs[0])) (first | go_keep | (go_split_ands; exact ⟨c6, z6⟩) | (go_split_ands; exact ⟨c7, z7⟩) | (go_split_ands; exact ⟨c8, z8⟩)) (first | (go_at_call 24; refine (rr_any _ _ _ _ _ sD).mono ?_; rintro e w6 ⟨rfl, hx⟩; rw [HRR.out]; have sT6 := sT.ext hx; have sR6 := sR.ext hx; have sN6 := sN.ext hx; have hb6 := ext_trans hD hx; have c6 : w6.cell? adr = some (.int .i64 (j : Int)) := (SlI.z0 sR6 hop).trans (by rw [HO0.out]); have z6 : w6.cell? adz = some (.int .i64 zs[0]) := SlI.z0 sT6 hz0; clear hx) | (go_at_call 21; refine (rrs_is HT.out sN6 (HZC.out _ sT6) rfl HK1.out).mono ?_; rintro e w7 ⟨R7, u7, rfl, v7, hx⟩; have sR7 := sR6.ext hx; have sT7 := sT6.ext hx; have hb7 := ext_trans hb6 hx; have c7 : w7.cell? adr = some (.int .i64 (j : Int)) := (SlI.z0 sR7 hop).trans (by rw [HO0.out]); have z7 : w7.cell? adz = some (.int .i64 zs[0]) := SlI.z0 sT7 hz0; clear hx) | (go_at_call 22; refine (eqIN_any v7 (HRC.out _ sR7) rfl HK2.out).mono ?_; rintro e w8 ⟨rfl, hx⟩; have sR8 := sR7.ext hx; have sT8 := sT7.ext hx; have hb8 := ext_trans hb7 hx; have c8 : w8.cell? adr = some (.int .i64 (j : Int)) := (SlI.z0 sR8 hop).trans (by rw [HO0.out]); have z8 : w8.cell? adz = some (.int .i64 zs[0]) := SlI.z0 sT8 hz0; clear hx; rw [HE2.out]))
              go_wp2
              go_ret
              exact ⟨rfl, hb8⟩
          · have hq3 : 2 ≤ d' := by omega
            have HK1 := HM1
            have HZC := hd (fun W (hW : SlI W (some adz) d' zs) => (show SlI W (some (adz.add 1)) (d' - 1) (zs.drop 1) by have := SlI.drop hW (m := 1) hz0; rw [if_neg hq1] at this; exact this))
            by_cases hq2 : p = 1
            · subst hq2
              have HK2 := hd (show 0 = qs.length by rw [← HM2.out]; omega)
              have HRC := hd (fun W (hW : SlI W (some adr) 1 os) => (show SlI W (some adr) 0 qs by have := HRT.out W hW; exact this))
              have sD : SlH w1.drew (some ady) d ys := s
              have sT : SlI w1.drew (some adz) d' zs := s'
              have sR : SlI w1.drew (some adr) 1 os := r
              have sN : SlH w1.drew _ _ _ := tn
              have q1 : (1 : Int) ≤ (zs.length : Int) := by omega
              have q2 : (1 : Int) ≤ (os.length : Int) := by omega
              have q3 : (zs.length : Int) ≤ ((d' : Nat) : Int) := by omega
              have q4 : (os.length : Int) ≤ ((1 : Nat) : Int) := by omega
              have hD := ext_drew hb
              have c1 : w1.cell? adr = some (.int .i64 (j : Int)) := (SlI.z0 r hop).trans (by rw [HO0.out])
              have z1 : w1.cell? adz = some (.int .i64 zs[0]) := SlI.z0 s' hz0
              go_wp2_with fail
              go_region_held3 (fun W => W.cell? adr = some (.int .i64 (j : Int)) ∧ W.cell? adz = some (.int .i64 zs[0])) (first | go_keep | (go_split_ands; exact ⟨c6, z6⟩) | (go_split_ands; exact ⟨c7, z7⟩) | (go_split_ands; exact ⟨c8, z8⟩)) (first | (go_at_call 24; refine (rr_any _ _ _ _ _ sD).mono ?_; rintro e w6 ⟨rfl, hx⟩; rw [HRR.out]; have sT6 := sT.ext hx; have sR6 := sR.ext hx; have sN6 := sN.ext hx; have hb6 := ext_trans hD hx; have c6 : w6.cell? adr = some (.int .i64 (j : Int)) := (SlI.z0 sR6 hop).trans (by rw [HO0.out]); have z6 : w6.cell? adz = some (.int .i64 zs[0]) := SlI.z0 sT6 hz0; clear hx) | (go_at_call 21; refine (rrs_is HT.out sN6 (HZC.out _ sT6) rfl HK1.out).mono ?_; rintro e w7 ⟨R7, u7, rfl, v7, hx⟩; have sR7 := sR6.ext hx; have sT7 := sT6.ext hx; have hb7 := ext_trans hb6 hx; have c7 : w7.cell? adr = some (.int .i64 (j : Int)) := (SlI.z0 sR7 hop).trans (by rw [HO0.out]); have z7 : w7.cell? adz = some (.int .i64 zs[0]) := SlI.z0 sT7 hz0; clear hx) | (go_at_call 22; refine (eqIN_any v7 (HRC.out _ sR7) rfl HK2.out).mono ?_; rintro e w8 ⟨rfl, hx⟩; have sR8 := sR7.ext hx; have sT8 := sT7.ext hx; have hb8 := ext_trans hb7 hx; have c8 : w8.cell? adr = some (.int .i64 (j : Int)) := (SlI.z0 sR8 hop).trans (by rw [HO0.out]); have z8 : w8.cell? adz = some (.int .i64 zs[0]) := SlI.z0 sT8 hz0; clear hx; rw [HE2.out]))
              go_wp2
              go_ret
              exact ⟨rfl, hb8⟩
            · have hq4 : 2 ≤ p := by omega
              have HK2 := HM2
              have HRC := hd (fun W (hW : SlI W (some adr) p os) => (show SlI W (some (adr.add 1)) (p - 1) qs by have := HRT.out W hW; rw [if_neg hq2] at this; exact this))
              have sD : SlH w1.drew (some ady) d ys := s
              have sT : SlI w1.drew (some adz) d' zs := s'
              have sR : SlI w1.drew (some adr) p os := r
              have sN : SlH w1.drew _ _ _ := tn
              have q1 : (1 : Int) ≤ (zs.length : Int) := by omega
              have q2 : (1 : Int) ≤ (os.length : Int) := by omega
              have q3 : (zs.length : Int) ≤ ((d' : Nat) : Int) := by omega
              have q4 : (os.length : Int) ≤ ((p : Nat) : Int) := by omega
              have hD := ext_drew hb
              have c1 : w1.cell? adr = some (.int .i64 (j : Int)) := (SlI.z0 r hop).trans (by rw [HO0.out])
              have z1 : w1.cell? adz = some (.int .i64 zs[0]) := SlI.z0 s' hz0
              go_wp2_with fail
              go_region_held3 (fun W => W.cell? adr = some (.int .i64 (j : Int)) ∧ W.cell? adz = some (.int .i64 zs[0])) (first | go_keep | (go_split_ands; exact ⟨c6, z6⟩) | (go_split_ands; exact ⟨c7, z7⟩) | (go_split_ands; exact ⟨c8, z8⟩)) (first | (go_at_call 24; refine (rr_any _ _ _ _ _ sD).mono ?_; rintro e w6 ⟨rfl, hx⟩; rw [HRR.out]; have sT6 := sT.ext hx; have sR6 := sR.ext hx; have sN6 := sN.ext hx; have hb6 := ext_trans hD hx; have c6 : w6.cell? adr = some (.int .i64 (j : Int)) := (SlI.z0 sR6 hop).trans (by rw [HO0.out]); have z6 : w6.cell? adz = some (.int .i64 zs[0]) := SlI.z0 sT6 hz0; clear hx) | (go_at_call 21; refine (rrs_is HT.out sN6 (HZC.out _ sT6) rfl HK1.out).mono ?_; rintro e w7 ⟨R7, u7, rfl, v7, hx⟩; have sR7 := sR6.ext hx; have sT7 := sT6.ext hx; have hb7 := ext_trans hb6 hx; have c7 : w7.cell? adr = some (.int .i64 (j : Int)) := (SlI.z0 sR7 hop).trans (by rw [HO0.out]); have z7 : w7.cell? adz = some (.int .i64 zs[0]) := SlI.z0 sT7 hz0; clear hx) | (go_at_call 22; refine (eqIN_any v7 (HRC.out _ sR7) rfl HK2.out).mono ?_; rintro e w8 ⟨rfl, hx⟩; have sR8 := sR7.ext hx; have sT8 := sT7.ext hx; have hb8 := ext_trans hb7 hx; have c8 : w8.cell? adr = some (.int .i64 (j : Int)) := (SlI.z0 sR8 hop).trans (by rw [HO0.out]); have z8 : w8.cell? adz = some (.int .i64 zs[0]) := SlI.z0 sT8 hz0; clear hx; rw [HE2.out]))
              go_wp2
              go_ret
              exact ⟨rfl, hb8⟩
        · have g1 : decide (ys[j].1 < 100) = false := decide_eq_false hld
          have HT := hd (show RRS ys (zs.drop 1) = qs by rw [← eT, HO0.out, bump_full hj hok hld])
          clear e e0 eR eT
          by_cases hq1 : d' = 1
          · subst hq1
            have HK1 := hd (show 0 = (zs.drop 1).length by rw [List.length_drop]; omega)
            have HZC := hd (fun W (hW : SlI W (some adz) 1 zs) => (show SlI W (some adz) 0 (zs.drop 1) from SlI.drop hW (m := 1) hz0))
            by_cases hq2 : p = 1
            · subst hq2
              have HK2 := hd (show 0 = qs.length by rw [← HM2.out]; omega)
              have HRC := hd (fun W (hW : SlI W (some adr) 1 os) => (show SlI W (some adr) 0 qs by have := HRT.out W hW; exact this))
              have sD : SlH w1.drew (some ady) d ys := s
              have sT : SlI w1.drew (some adz) 1 zs := s'
              have sR : SlI w1.drew (some adr) 1 os := r
              have sN : SlH w1.drew _ _ _ := s
              have q1 : (1 : Int) ≤ (zs.length : Int) := by omega
              have q2 : (1 : Int) ≤ (os.length : Int) := by omega
              have q3 : (zs.length : Int) ≤ ((1 : Nat) : Int) := by omega
              have q4 : (os.length : Int) ≤ ((1 : Nat) : Int) := by omega
              have hD := ext_drew hb
              have c1 : w1.cell? adr = some (.int .i64 (j : Int)) := (SlI.z0 r hop).trans (by rw [HO0.out])
              have z1 : w1.cell? adz = some (.int .i64 zs[0]) := SlI.z0 s' hz0
              go_wp2_with fail
              go_region_held3 (fun W => W.cell? adr = some (.int .i64 (j : Int)) ∧ W.cell? adz = some (.int .i64 zs[0])) (first | go_keep | (go_split_ands; exact ⟨c6, z6⟩) | (go_split_ands; exact ⟨c7, z7⟩) | (go_split_ands; exact ⟨c8, z8⟩)) (first | (go_at_call 24; refine (rr_any _ _ _ _ _ sD).mono ?_; rintro e w6 ⟨rfl, hx⟩; rw [HRR.out]; have sT6 := sT.ext hx; have sR6 := sR.ext hx; have sN6 := sN.ext hx; have hb6 := ext_trans hD hx; have c6 : w6.cell? adr = some (.int .i64 (j : Int)) := (SlI.z0 sR6 hop).trans (by rw [HO0.out]); have z6 : w6.cell? adz = some (.int .i64 zs[0]) := SlI.z0 sT6 hz0; clear hx) | (go_at_call 21; refine (rrs_is HT.out sN6 (HZC.out _ sT6) rfl HK1.out).mono ?_; rintro e w7 ⟨R7, u7, rfl, v7, hx⟩; have sR7 := sR6.ext hx; have sT7 := sT6.ext hx; have hb7 := ext_trans hb6 hx; have c7 : w7.cell? adr = some (.int .i64 (j : Int)) := (SlI.z0 sR7 hop).trans (by rw [HO0.out]); have z7 : w7.cell? adz = some (.int .i64 zs[0]) := SlI.z0 sT7 hz0; clear hx) | (go_at_call 22; refine (eqIN_any v7 (HRC.out _ sR7) rfl HK2.out).mono ?_; rintro e w8 ⟨rfl, hx⟩; have sR8 := sR7.ext hx; have sT8 := sT7.ext hx; have hb8 := ext_trans hb7 hx; have c8 : w8.cell? adr = some (.int .i64 (j : Int)) := (SlI.z0 sR8 hop).trans (by rw [HO0.out]); have z8 : w8.cell? adz = some (.int .i64 zs[0]) := SlI.z0 sT8 hz0; clear hx; rw [HE2.out]))
              go_wp2
              go_ret
              exact ⟨rfl, hb8⟩
            · have hq4 : 2 ≤ p := by omega
              have HK2 := HM2
              have HRC := hd (fun W (hW : SlI W (some adr) p os) => (show SlI W (some (adr.add 1)) (p - 1) qs by have := HRT.out W hW; rw [if_neg hq2] at this; exact this))
              have sD : SlH w1.drew (some ady) d ys := s
              have sT : SlI w1.drew (some adz) 1 zs := s'
              have sR : SlI w1.drew (some adr) p os := r
              have sN : SlH w1.drew _ _ _ := s
              have q1 : (1 : Int) ≤ (zs.length : Int) := by omega
              have q2 : (1 : Int) ≤ (os.length : Int) := by omega
              have q3 : (zs.length : Int) ≤ ((1 : Nat) : Int) := by omega
              have q4 : (os.length : Int) ≤ ((p : Nat) : Int) := by omega
              have hD := ext_drew hb
              have c1 : w1.cell? adr = some (.int .i64 (j : Int)) := (SlI.z0 r hop).trans (by rw [HO0.out])
              have z1 : w1.cell? adz = some (.int .i64 zs[0]) := SlI.z0 s' hz0
              go_wp2_with fail
              go_region_held3 (fun W => W.cell? adr = some (.int .i64 (j : Int)) ∧ W.cell? adz = some (.int .i64 zs[0])) (first | go_keep | (go_split_ands; exact ⟨c6, z6⟩) | (go_split_ands; exact ⟨c7, z7⟩) | (go_split_ands; exact ⟨c8, z8⟩)) (first | (go_at_call 24; refine (rr_any _ _ _ _ _ sD).mono ?_; rintro e w6 ⟨rfl, hx⟩; rw [HRR.out]; have sT6 := sT.ext hx; have sR6 := sR.ext hx; have sN6 := sN.ext hx; have hb6 := ext_trans hD hx; have c6 : w6.cell? adr = some (.int .i64 (j : Int)) := (SlI.z0 sR6 hop).trans (by rw [HO0.out]); have z6 : w6.cell? adz = some (.int .i64 zs[0]) := SlI.z0 sT6 hz0; clear hx) | (go_at_call 21; refine (rrs_is HT.out sN6 (HZC.out _ sT6) rfl HK1.out).mono ?_; rintro e w7 ⟨R7, u7, rfl, v7, hx⟩; have sR7 := sR6.ext hx; have sT7 := sT6.ext hx; have hb7 := ext_trans hb6 hx; have c7 : w7.cell? adr = some (.int .i64 (j : Int)) := (SlI.z0 sR7 hop).trans (by rw [HO0.out]); have z7 : w7.cell? adz = some (.int .i64 zs[0]) := SlI.z0 sT7 hz0; clear hx) | (go_at_call 22; refine (eqIN_any v7 (HRC.out _ sR7) rfl HK2.out).mono ?_; rintro e w8 ⟨rfl, hx⟩; have sR8 := sR7.ext hx; have sT8 := sT7.ext hx; have hb8 := ext_trans hb7 hx; have c8 : w8.cell? adr = some (.int .i64 (j : Int)) := (SlI.z0 sR8 hop).trans (by rw [HO0.out]); have z8 : w8.cell? adz = some (.int .i64 zs[0]) := SlI.z0 sT8 hz0; clear hx; rw [HE2.out]))
              go_wp2
              go_ret
              exact ⟨rfl, hb8⟩
          · have hq3 : 2 ≤ d' := by omega
            have HK1 := HM1
            have HZC := hd (fun W (hW : SlI W (some adz) d' zs) => (show SlI W (some (adz.add 1)) (d' - 1) (zs.drop 1) by have := SlI.drop hW (m := 1) hz0; rw [if_neg hq1] at this; exact this))
            by_cases hq2 : p = 1
            · subst hq2
              have HK2 := hd (show 0 = qs.length by rw [← HM2.out]; omega)
              have HRC := hd (fun W (hW : SlI W (some adr) 1 os) => (show SlI W (some adr) 0 qs by have := HRT.out W hW; exact this))
              have sD : SlH w1.drew (some ady) d ys := s
              have sT : SlI w1.drew (some adz) d' zs := s'
              have sR : SlI w1.drew (some adr) 1 os := r
              have sN : SlH w1.drew _ _ _ := s
              have q1 : (1 : Int) ≤ (zs.length : Int) := by omega
              have q2 : (1 : Int) ≤ (os.length : Int) := by omega
              have q3 : (zs.length : Int) ≤ ((d' : Nat) : Int) := by omega
              have q4 : (os.length : Int) ≤ ((1 : Nat) : Int) := by omega
              have hD := ext_drew hb
              have c1 : w1.cell? adr = some (.int .i64 (j : Int)) := (SlI.z0 r hop).trans (by rw [HO0.out])
              have z1 : w1.cell? adz = some (.int .i64 zs[0]) := SlI.z0 s' hz0
              go_wp2_with fail
              go_region_held3 (fun W => W.cell? adr = some (.int .i64 (j : Int)) ∧ W.cell? adz = some (.int .i64 zs[0])) (first | go_keep | (go_split_ands; exact ⟨c6, z6⟩) | (go_split_ands; exact ⟨c7, z7⟩) | (go_split_ands; exact ⟨c8, z8⟩)) (first | (go_at_call 24; refine (rr_any _ _ _ _ _ sD).mono ?_; rintro e w6 ⟨rfl, hx⟩; rw [HRR.out]; have sT6 := sT.ext hx; have sR6 := sR.ext hx; have sN6 := sN.ext hx; have hb6 := ext_trans hD hx; have c6 : w6.cell? adr = some (.int .i64 (j : Int)) := (SlI.z0 sR6 hop).trans (by rw [HO0.out]); have z6 : w6.cell? adz = some (.int .i64 zs[0]) := SlI.z0 sT6 hz0; clear hx) | (go_at_call 21; refine (rrs_is HT.out sN6 (HZC.out _ sT6) rfl HK1.out).mono ?_; rintro e w7 ⟨R7, u7, rfl, v7, hx⟩; have sR7 := sR6.ext hx; have sT7 := sT6.ext hx; have hb7 := ext_trans hb6 hx; have c7 : w7.cell? adr = some (.int .i64 (j : Int)) := (SlI.z0 sR7 hop).trans (by rw [HO0.out]); have z7 : w7.cell? adz = some (.int .i64 zs[0]) := SlI.z0 sT7 hz0; clear hx) | (go_at_call 22; refine (eqIN_any v7 (HRC.out _ sR7) rfl HK2.out).mono ?_; rintro e w8 ⟨rfl, hx⟩; have sR8 := sR7.ext hx; have sT8 := sT7.ext hx; have hb8 := ext_trans hb7 hx; have c8 : w8.cell? adr = some (.int .i64 (j : Int)) := (SlI.z0 sR8 hop).trans (by rw [HO0.out]); have z8 : w8.cell? adz = some (.int .i64 zs[0]) := SlI.z0 sT8 hz0; clear hx; rw [HE2.out]))
              go_wp2
              go_ret
              exact ⟨rfl, hb8⟩
            · have hq4 : 2 ≤ p := by omega
              have HK2 := HM2
              have HRC := hd (fun W (hW : SlI W (some adr) p os) => (show SlI W (some (adr.add 1)) (p - 1) qs by have := HRT.out W hW; rw [if_neg hq2] at this; exact this))
              have sD : SlH w1.drew (some ady) d ys := s
              have sT : SlI w1.drew (some adz) d' zs := s'
              have sR : SlI w1.drew (some adr) p os := r
              have sN : SlH w1.drew _ _ _ := s
              have q1 : (1 : Int) ≤ (zs.length : Int) := by omega
              have q2 : (1 : Int) ≤ (os.length : Int) := by omega
              have q3 : (zs.length : Int) ≤ ((d' : Nat) : Int) := by omega
              have q4 : (os.length : Int) ≤ ((p : Nat) : Int) := by omega
              have hD := ext_drew hb
              have c1 : w1.cell? adr = some (.int .i64 (j : Int)) := (SlI.z0 r hop).trans (by rw [HO0.out])
              have z1 : w1.cell? adz = some (.int .i64 zs[0]) := SlI.z0 s' hz0
              go_wp2_with fail
              go_region_held3 (fun W => W.cell? adr = some (.int .i64 (j : Int)) ∧ W.cell? adz = some (.int .i64 zs[0])) (first | go_keep | (go_split_ands; exact ⟨c6, z6⟩) | (go_split_ands; exact ⟨c7, z7⟩) | (go_split_ands; exact ⟨c8, z8⟩)) (first | (go_at_call 24; refine (rr_any _ _ _ _ _ sD).mono ?_; rintro e w6 ⟨rfl, hx⟩; rw [HRR.out]; have sT6 := sT.ext hx; have sR6 := sR.ext hx; have sN6 := sN.ext hx; have hb6 := ext_trans hD hx; have c6 : w6.cell? adr = some (.int .i64 (j : Int)) := (SlI.z0 sR6 hop).trans (by rw [HO0.out]); have z6 : w6.cell? adz = some (.int .i64 zs[0]) := SlI.z0 sT6 hz0; clear hx) | (go_at_call 21; refine (rrs_is HT.out sN6 (HZC.out _ sT6) rfl HK1.out).mono ?_; rintro e w7 ⟨R7, u7, rfl, v7, hx⟩; have sR7 := sR6.ext hx; have sT7 := sT6.ext hx; have hb7 := ext_trans hb6 hx; have c7 : w7.cell? adr = some (.int .i64 (j : Int)) := (SlI.z0 sR7 hop).trans (by rw [HO0.out]); have z7 : w7.cell? adz = some (.int .i64 zs[0]) := SlI.z0 sT7 hz0; clear hx) | (go_at_call 22; refine (eqIN_any v7 (HRC.out _ sR7) rfl HK2.out).mono ?_; rintro e w8 ⟨rfl, hx⟩; have sR8 := sR7.ext hx; have sT8 := sT7.ext hx; have hb8 := ext_trans hb7 hx; have c8 : w8.cell? adr = some (.int .i64 (j : Int)) := (SlI.z0 sR8 hop).trans (by rw [HO0.out]); have z8 : w8.cell? adz = some (.int .i64 zs[0]) := SlI.z0 sT8 hz0; clear hx; rw [HE2.out]))
              go_wp2
              go_ret
              exact ⟨rfl, hb8⟩
end Go.Proofs.Ytbpadfeplmmeeaa
