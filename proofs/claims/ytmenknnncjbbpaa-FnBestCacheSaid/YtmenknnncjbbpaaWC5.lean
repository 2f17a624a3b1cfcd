/- Contracts on caches: use of the reference, UseStatement of both. -/
import Derived.Test.YtmenknnncjbbpaaWC4
namespace Go.Proofs.Ytmenknnncjbbpaa
open Go.RowKit
set_option maxRecDepth 100000 in
set_option maxHeartbeats 2000000 in
theorem suse_any (r : Int) (A : Option Addr) (c : Nat) (xs : List Int) (v : Int) (w : World) (h : SlI w A c xs) (V : ValidC r xs) :
    Calls Try.prog 31 #[.agg #[.int .i64 r, .slice A xs.length c], .int .i64 v] w (CaO (US r xs v) r w) := by
  obtain ⟨W0, hW0⟩ : ∃ W0, W0 = (w.alloc (.cells #[.int .i64 r, .slice A xs.length c] 31)).alloc (.cells #[.int .i64 0, .slice none 0 0] 31) := ⟨_, rfl⟩
  have hb0 : Below w.heap.size w W0 := by rw [hW0]; exact ext_alloc (ext_alloc (Below.refl _ _) _) _
  have hx0 : Cx 31 W0 w.heap.size (.int .i64 r) (.slice A xs.length c) := by rw [hW0]; exact (Cx.new w _ _).alloc _
  have hr0 : Cx 31 W0 (w.heap.size + 1) (.int .i64 0) (.slice none 0 0) := by
    rw [hW0]
    have := Cx.new (e := 31) (w.alloc (.cells #[.int .i64 r, .slice A xs.length c] 31)) (.int .i64 0) (.slice none 0 0)
    simpa using this
  have hlW : w.heap.size + 1 < W0.heap.size := hr0.lt
  have s0 := h.ext hb0
  have b0 := hx0.c0
  have b1 := hx0.c1
  have HX0 := hd hx0
  have HR0 := hd hr0
  have HB0 := hd hb0
  have l6 := V.len
  have r0 := V.r0
  have r6 := V.r1
  have hl1 := lv_len xs v
  obtain ⟨ns, hns⟩ : ∃ ns, ns = lv xs v := ⟨_, rfl⟩
  have HU1 := hd (fun h1 => US_all (r := r) (xs := xs) (v := v) h1)
  have HU2 := hd (fun h1 => US_one (r := r) (xs := xs) (v := v) h1 r0)
  rw [← hns] at HU1 HU2 hl1
  have HN := hd hns
  clear hx0 hr0 hb0 h V hns
  go_enter Try.func31, Try.ntmps31
  go_wp2_with fail
  rw [← hW0]
  clear hW0
  refine (leave_any A c xs v W0 s0 (by omega)).mono ?_
  rintro e w2 ⟨u2, rfl, hown2, hx⟩
  rw [← HN.out] at hown2
  have bx := HX0.out.ext hx
  have bz := HR0.out.ext hx
  have hb1 := HB0.out.trans (hx.mono HB0.out.size)
  have hz2 := hx.size
  obtain ⟨A2, c2, rfl, r2⟩ := rwI_of_own hown2 rfl rfl
  have b0 := bx.c0
  have b1 := bx.c1
  clear hx s0
  go_wp2_with (at_builtin; refine wpList_app eltI _ _ (news := ci [v]) (m := 1) hown2 rfl (ci_one _) (by omega) (by omega) (by omega) (by rfl) (by rfl) (by rfl) (by rfl) ?_; intro v' w4 hown4 hg4; have hge2 := own_ge hown2; replace bx := bx.far hg4 (fun e => by have := hge2 _ e; omega); replace bz := bz.far hg4 (fun e => by have := hge2 _ e; omega); replace hb1 := hb1.grown hg4 hb1.size (fun k e => by have := hge2 _ e; omega); obtain ⟨ms, hms⟩ : ∃ ms, ms = ns ++ [v] := ⟨_, rfl⟩; obtain ⟨A3, c3, rfl, r3⟩ := rwI_of_own (zs := ms) hown4 (by rw [hms, ci_append]) (by rw [hms]; simp); have HM := hd hms; have hml : ms.length ≤ ns.length + 1 := (by rw [hms]; simp); have hml2 : ns.length + 1 ≤ ms.length := (by rw [hms]; simp); clear hms; replace b0 := bx.c0; replace b1 := bx.c1)
  have r3c := r3.sl.cap
  have r3m := r3.sl.max
  unfold maxLen at r3m
  have ne1 : w.heap.size + 1 ≠ w.heap.size := by omega
  have ne2 : w.heap.size ≠ w.heap.size + 1 := by omega
  have hr3 := hd (And.intro r3 (And.intro (show Cx 31 w4.drew (w.heap.size + 1) (.int .i64 0) (.slice none 0 0) from bz) (show Below w.heap.size w w4.drew from ext_drew hb1)))
  have hX4 := hd (show Cx 31 w4.drew w.heap.size (.int .i64 r) (.slice A xs.length c) from bx)
  clear bx bz hown2 r2 hown4 hg4 hge2 hb1
  have hlw4 : w.heap.size + 1 < w4.heap.size := hr3.out.2.1.lt
  by_cases hfit : (ms.length : Int) ≤ r
  · have hnr : ¬ r < (ms.length : Int) := by omega
    have hw0 : IntKind.i64.wrap ((ms.length : Int) - r) = (ms.length : Int) - r := by rw [IntKind.wrap_i64]; omega
    have HZS := hd (show ms = US r xs v by rw [HU1.out (by omega), HM.out])
    have CL := hd (copyInts_any A3 c3 ms w4.drew (hr3.out.1.sl : SlI w4 A3 c3 ms) (by omega))
    have hfin : Hid True := trivial
    clear HU1 HU2 HM
    go_region_held3 (fun W => W.cell? ⟨w.heap.size, 0, none⟩ = some (.int .i64 r) ∧ W.cell? ⟨w.heap.size, 1, none⟩ = some (.slice A xs.length c)) (go_keep)
      (first
        | (go_at_call 34; (with_reducible refine CL.out.mono ?_); rintro e w5 ⟨P, p, rfl, rP, hx⟩; have bx5 := hX4.out.ext hx; have d0 := bx5.c0; have d1 := bx5.c1; have bz5 := hr3.out.2.1.ext hx; have z0 := bz5.c0; have z1 := bz5.c1; have y0 := bz5.free 0; have y1 := bz5.free 1; have HP := hd rP; have HBB := hd (hr3.out.2.2.trans (hx.mono hr3.out.2.2.size)); clear bx5 bz5 rP hx)
        | fail)
    all_goals go_wp2
    all_goals (
      refine bodyPost_ret (v := .agg #[.int .i64 r, .slice P ms.length p]) (by simp [results, Try.results31, go_sem, z0, z1]) rfl ?_
      have rP' := (HP.out.low (B' := w.heap.size) (by have := hr3.out.2.2.size; show w.heap.size ≤ w4.heap.size; omega))
      have rr := Rw.apart rP' (set2g w5 (w.heap.size + 1) (.int .i64 r) (.slice P ms.length p)) (fun j hj e => by injection e with e; have := (Rw.row HP.out j hj).1; have h5 : w4.drew.heap.size = w4.heap.size := rfl; omega)
      rw [← HZS.out]
      exact ⟨P, p, rfl, rr, cset2_old HBB.out (by omega)⟩)
  · have hd1 : (ms.length : Int) - r = 1 := by omega
    have h1i : (1 : Int) ≤ (ms.length : Int) := by omega
    have hw1 : IntKind.i64.wrap 1 = 1 := by decide
    have hnr : r < (ms.length : Int) := by omega
    have h1m : 1 ≤ ms.length := by omega
    obtain ⟨zs, hzs⟩ : ∃ zs, zs = ms.drop 1 := ⟨_, rfl⟩
    have HZS := hd (show zs = US r xs v by rw [HU2.out (by omega), hzs, HM.out])
    obtain ⟨A', hA', hdr⟩ : ∃ A', (if c3 = 1 then A3 else Option.map (fun x => ({ block := x.block, off := x.off + 1 } : Addr)) A3) = A' ∧ SlI w4.drew A' (c3 - 1) zs := by
      have h1 := SlI.drop (hr3.out.1.sl : SlI w4 A3 c3 ms) h1m
      exact ⟨_, rfl, by rw [hzs]; exact h1⟩
    have hzl : ms.length - 1 = zs.length := by rw [hzs, List.length_drop]
    have CL := hd (copyInts_any A' (c3 - 1) zs w4.drew hdr (by omega))
    rw [← hzl] at CL
    have HZL := hd hzl
    clear HU1 HU2 HM hzs hdr hfit hzl
    go_region_held3 (fun W => W.cell? ⟨w.heap.size, 0, none⟩ = some (.int .i64 r) ∧ W.cell? ⟨w.heap.size, 1, none⟩ = some (.slice A xs.length c)) (go_keep)
      (first
        | (go_at_call 34; (with_reducible refine CL.out.mono ?_); rintro e w5 ⟨P, p, rfl, rP, hx⟩; have bx5 := hX4.out.ext hx; have d0 := bx5.c0; have d1 := bx5.c1; have bz5 := hr3.out.2.1.ext hx; have z0 := bz5.c0; have z1 := bz5.c1; have y0 := bz5.free 0; have y1 := bz5.free 1; have HP := hd rP; have HBB := hd (hr3.out.2.2.trans (hx.mono hr3.out.2.2.size)); clear bx5 bz5 rP hx)
        | fail)
    all_goals go_wp2
    all_goals (
      refine bodyPost_ret (v := .agg #[.int .i64 r, .slice P zs.length p]) (by simp [results, Try.results31, go_sem, z0, z1]) rfl ?_
      have rP' := (HP.out.low (B' := w.heap.size) (by have := hr3.out.2.2.size; show w.heap.size ≤ w4.heap.size; omega))
      have rr := Rw.apart rP' (set2g w5 (w.heap.size + 1) (.int .i64 r) (.slice P zs.length p)) (fun j hj e => by injection e with e; have := (Rw.row HP.out j hj).1; have h5 : w4.drew.heap.size = w4.heap.size := rfl; omega)
      rw [← HZS.out]
      exact ⟨P, p, rfl, rr, cset2_old HBB.out (by omega)⟩)
/-- A cache and a word, or none. -/
def CaR (o : Option (List Int × Bool)) (r : Int) (w : World) (e : Ending) (w' : World) : Prop :=
  match o with
  | none => e = .returned (.tuple #[.agg #[.int .i64 0, .slice none 0 0], .bool false]) ∧ Below w.heap.size w w'
  | some zb => CaB zb.1 r zb.2 w e w'
theorem caR_none {o : Option (List Int × Bool)} {r : Int} {w w' : World} {e : Ending} (h : o = none) (he : e = .returned (.tuple #[.agg #[.int .i64 0, .slice none 0 0], .bool false])) (hb : Below w.heap.size w w') : CaR o r w e w' := by
  subst h; exact ⟨he, hb⟩
theorem USE_no1 {r : Int} {xs : List Int} {v : Int} (h : VCa r xs = false) : USE r xs v = none := if_neg fun h' => by rw [h] at h'; cases h'.1
theorem USE_no2 {r : Int} {xs : List Int} {v : Int} (h : inB v 0 9 = false) : USE r xs v = none := if_neg fun h' => by rw [h] at h'; cases h'.2
theorem USE_ok {r : Int} {xs : List Int} {v : Int} (h : VCa r xs = true) (h2 : inB v 0 9 = true) : USE r xs v = some (US r xs v, hasB xs v) := if_pos ⟨h, h2⟩
set_option maxRecDepth 100000 in
set_option maxHeartbeats 2000000 in
theorem us_any (r : Int) (A : Option Addr) (c : Nat) (xs : List Int) (v : Int) (w : World) (h : SlI w A c xs) :
    Calls Try.prog 15 #[.agg #[.int .i64 r, .slice A xs.length c], .int .i64 v] w (CaR (USE r xs v) r w) := by
  obtain ⟨W0, hW0⟩ : ∃ W0, W0 = (w.alloc (.cells #[.int .i64 r, .slice A xs.length c] 31)).alloc (.cells #[.int .i64 0, .slice none 0 0] 31) := ⟨_, rfl⟩
  have hb0 : Below w.heap.size w W0 := by rw [hW0]; exact ext_alloc (ext_alloc (Below.refl _ _) _) _
  have hx0 : Cx 31 W0 w.heap.size (.int .i64 r) (.slice A xs.length c) := by rw [hW0]; exact (Cx.new w _ _).alloc _
  have hr0 : Cx 31 W0 (w.heap.size + 1) (.int .i64 0) (.slice none 0 0) := by
    rw [hW0]
    have := Cx.new (e := 31) (w.alloc (.cells #[.int .i64 r, .slice A xs.length c] 31)) (.int .i64 0) (.slice none 0 0)
    simpa using this
  have hlW : w.heap.size + 1 < W0.heap.size := hr0.lt
  have s0 := h.ext hb0
  have b0 := hx0.c0
  have b1 := hx0.c1
  have HX0 := hd hx0
  have HR0 := hd hr0
  have HB0 := hd hb0
  clear hx0 hr0 hb0 h
  cases hv : VCa r xs with
  | false =>
    have HN := hd (USE_no1 (v := v) hv)
    go_enter Try.func15, Try.ntmps15
    go_wp2_with fail
    rw [← hW0]
    clear hW0
    refine (vca_any _ _ _ _ _ s0).mono ?_
    rintro e w1 ⟨rfl, hx⟩
    rw [hv]
    have bz := HR0.out.ext hx
    have z0 := bz.c0
    have z1 := bz.c1
    have y0 := bz.free 0
    have y1 := bz.free 1
    have hb1 := HB0.out.trans (hx.mono HB0.out.size)
    clear bz hx
    go_wp2
    refine bodyPost_ret (v := .tuple #[.agg #[.int .i64 0, .slice none 0 0], .bool false]) (by simp [results, Try.results15, go_sem, z0, z1]) rfl ?_
    exact caR_none HN.out rfl (cset2_old hb1 (by omega))
  | true =>
    cases h2 : inB v 0 9 with
    | false =>
      have HN := hd (USE_no2 (r := r) (xs := xs) h2)
      go_enter Try.func15, Try.ntmps15
      go_wp2_with fail
      rw [← hW0]
      clear hW0
      refine (vca_any _ _ _ _ _ s0).mono ?_
      rintro e w1 ⟨rfl, hx⟩
      rw [hv]
      have bz := HR0.out.ext hx
      have z0 := bz.c0
      have z1 := bz.c1
      have y0 := bz.free 0
      have y1 := bz.free 1
      have hb1 := HB0.out.trans (hx.mono HB0.out.size)
      clear bz hx
      go_wp2_with (go_at_call 32; refine (in_any _ _ _ _).mono ?_; rintro e w2 ⟨rfl, rfl⟩; rw [h2])
      refine bodyPost_ret (v := .tuple #[.agg #[.int .i64 0, .slice none 0 0], .bool false]) (by simp [results, Try.results15, go_sem, z0, z1]) rfl ?_
      exact caR_none HN.out rfl (cset2_old hb1 (by omega))
    | true =>
      have HU := hd (USE_ok hv h2)
      have V := validC_iff.1 hv
      go_enter Try.func15, Try.ntmps15
      go_wp2_with fail
      rw [← hW0]
      clear hW0
      refine (vca_any _ _ _ _ _ s0).mono ?_
      rintro e w1 ⟨rfl, hx⟩
      rw [hv]
      have bz := HR0.out.ext hx
      have bx := HX0.out.ext hx
      have s1 := s0.ext hx
      have hb1 := HB0.out.trans (hx.mono HB0.out.size)
      have hz1 := hx.size
      clear hx s0 b0 b1
      have b0 := bx.c0
      have b1 := bx.c1
      go_wp2_with (first | (go_at_call 32; refine (in_any _ _ _ _).mono ?_; rintro e w2 ⟨rfl, rfl⟩; rw [h2]) | (go_at_call 30; refine (use_any r A c xs v w1 s1 V).mono ?_; rintro e w5 ⟨P, p, rfl, rP, hx⟩; have bz5 := bz.ext hx; have z0 := bz5.c0; have z1 := bz5.c1; have y0 := bz5.free 0; have y1 := bz5.free 1; have HP := hd rP; have HBB := hd (hb1.trans (hx.mono hb1.size)); clear bz5 hx rP))
      obtain ⟨zs, hzs⟩ : ∃ zs, zs = US r xs v := ⟨_, rfl⟩
      rw [← hzs] at HP HU ⊢
      refine bodyPost_ret (v := .tuple #[.agg #[.int .i64 r, .slice P zs.length p], .bool (hasB xs v)]) (by simp [results, Try.results15, go_sem, z0, z1]) rfl ?_
      rw [HU.out]
      exact ⟨P, p, rfl, (Rw.apart HP.out (set2g w5 (w.heap.size + 1) _ _) (fun j hj e => by injection e with e; have := (Rw.row HP.out j hj).1; omega)).low (by omega), cset2_old HBB.out (by omega)⟩
set_option maxRecDepth 100000 in
set_option maxHeartbeats 2000000 in
theorem sus_any (r : Int) (A : Option Addr) (c : Nat) (xs : List Int) (v : Int) (w : World) (h : SlI w A c xs) :
    Calls Try.prog 33 #[.agg #[.int .i64 r, .slice A xs.length c], .int .i64 v] w (CaR (USE r xs v) r w) := by
  obtain ⟨W0, hW0⟩ : ∃ W0, W0 = (w.alloc (.cells #[.int .i64 r, .slice A xs.length c] 31)).alloc (.cells #[.int .i64 0, .slice none 0 0] 31) := ⟨_, rfl⟩
  have hb0 : Below w.heap.size w W0 := by rw [hW0]; exact ext_alloc (ext_alloc (Below.refl _ _) _) _
  have hx0 : Cx 31 W0 w.heap.size (.int .i64 r) (.slice A xs.length c) := by rw [hW0]; exact (Cx.new w _ _).alloc _
  have hr0 : Cx 31 W0 (w.heap.size + 1) (.int .i64 0) (.slice none 0 0) := by
    rw [hW0]
    have := Cx.new (e := 31) (w.alloc (.cells #[.int .i64 r, .slice A xs.length c] 31)) (.int .i64 0) (.slice none 0 0)
    simpa using this
  have hlW : w.heap.size + 1 < W0.heap.size := hr0.lt
  have s0 := h.ext hb0
  have b0 := hx0.c0
  have b1 := hx0.c1
  have HX0 := hd hx0
  have HR0 := hd hr0
  have HB0 := hd hb0
  clear hx0 hr0 hb0 h
  cases hv : VCa r xs with
  | false =>
    have HN := hd (USE_no1 (v := v) hv)
    go_enter Try.func33, Try.ntmps33
    go_wp2_with fail
    rw [← hW0]
    clear hW0
    refine (svca_any _ _ _ _ _ s0).mono ?_
    rintro e w1 ⟨rfl, hx⟩
    rw [hv]
    have bz := HR0.out.ext hx
    have z0 := bz.c0
    have z1 := bz.c1
    have y0 := bz.free 0
    have y1 := bz.free 1
    have hb1 := HB0.out.trans (hx.mono HB0.out.size)
    clear bz hx
    go_wp2
    refine bodyPost_ret (v := .tuple #[.agg #[.int .i64 0, .slice none 0 0], .bool false]) (by simp [results, Try.results33, go_sem, z0, z1]) rfl ?_
    exact caR_none HN.out rfl (cset2_old hb1 (by omega))
  | true =>
    cases h2 : inB v 0 9 with
    | false =>
      have HN := hd (USE_no2 (r := r) (xs := xs) h2)
      go_enter Try.func33, Try.ntmps33
      go_wp2_with fail
      rw [← hW0]
      clear hW0
      refine (svca_any _ _ _ _ _ s0).mono ?_
      rintro e w1 ⟨rfl, hx⟩
      rw [hv]
      have bz := HR0.out.ext hx
      have z0 := bz.c0
      have z1 := bz.c1
      have y0 := bz.free 0
      have y1 := bz.free 1
      have hb1 := HB0.out.trans (hx.mono HB0.out.size)
      clear bz hx
      go_wp2_with (go_at_call 36; refine (inr_any _ _ _ _).mono ?_; rintro e w2 ⟨rfl, rfl⟩; rw [h2])
      refine bodyPost_ret (v := .tuple #[.agg #[.int .i64 0, .slice none 0 0], .bool false]) (by simp [results, Try.results33, go_sem, z0, z1]) rfl ?_
      exact caR_none HN.out rfl (cset2_old hb1 (by omega))
    | true =>
      have HU := hd (USE_ok hv h2)
      have V := validC_iff.1 hv
      go_enter Try.func33, Try.ntmps33
      go_wp2_with fail
      rw [← hW0]
      clear hW0
      refine (svca_any _ _ _ _ _ s0).mono ?_
      rintro e w1 ⟨rfl, hx⟩
      rw [hv]
      have bz := HR0.out.ext hx
      have bx := HX0.out.ext hx
      have s1 := s0.ext hx
      have hb1 := HB0.out.trans (hx.mono HB0.out.size)
      have hz1 := hx.size
      clear hx s0 b0 b1
      have b0 := bx.c0
      have b1 := bx.c1
      have ne1 : w.heap.size + 1 ≠ w.heap.size := by omega
      have ne2 : w.heap.size ≠ w.heap.size + 1 := by omega
      have hbd : Below w.heap.size w w1.drew := ext_drew hb1
      have H1 := hd (And.intro (show Cx 31 w1.drew (w.heap.size + 1) (.int .i64 0) (.slice none 0 0) from bz) (And.intro (show Cx 31 w1.drew w.heap.size (.int .i64 r) (.slice A xs.length c) from bx) (And.intro hbd (show SlI w1.drew A c xs from s1))))
      obtain ⟨zs, hzs⟩ : ∃ zs, zs = US r xs v := ⟨_, rfl⟩
      have CU := hd (suse_any r A c xs v w1.drew s1 V)
      rw [← hzs] at CU HU
      clear bz bx s1 hb1 hbd V hzs
      go_wp2_with (go_at_call 36; refine (inr_any _ _ _ _).mono ?_; rintro e w2 ⟨rfl, rfl⟩; rw [h2])
      go_region_held3 (fun W => W.cell? ⟨w.heap.size, 0, none⟩ = some (.int .i64 r) ∧ W.cell? ⟨w.heap.size, 1, none⟩ = some (.slice A xs.length c)) (go_keep)
        (first
          | (go_at_call 31; (with_reducible refine CU.out.mono ?_); rintro e w5 ⟨P, p, rfl, rP, hx⟩; have bx5 := H1.out.2.1.ext hx; have d0 := bx5.c0; have d1 := bx5.c1; have bz5 := H1.out.1.ext hx; have z0 := bz5.c0; have z1 := bz5.c1; have y0 := bz5.free 0; have y1 := bz5.free 1; have s5 := H1.out.2.2.2.ext hx; have HP := hd rP; have HBB := hd (H1.out.2.2.1.trans (hx.mono H1.out.2.2.1.size)); clear bx5 bz5 rP hx)
          | (go_at_call 25; (with_reducible refine (isIn_any A _ c xs v w5 s5 rfl).mono ?_); rintro e w6 ⟨rfl, rfl⟩)
          | fail)
      all_goals go_wp2
      all_goals (
        refine bodyPost_ret (v := .tuple #[.agg #[.int .i64 r, .slice P zs.length p], .bool (hasB xs v)]) (by simp [results, Try.results33, go_sem, z0, z1]) rfl ?_
        have h5 : w1.drew.heap.size = w1.heap.size := rfl
        rw [HU.out]
        exact ⟨P, p, rfl, (Rw.apart HP.out (set2g _ (w.heap.size + 1) _ _) (fun j hj e => by injection e with e; have := (Rw.row HP.out j hj).1; omega)).low (by omega), cset2_old HBB.out (by omega)⟩)
end Go.Proofs.Ytmenknnncjbbpaa
