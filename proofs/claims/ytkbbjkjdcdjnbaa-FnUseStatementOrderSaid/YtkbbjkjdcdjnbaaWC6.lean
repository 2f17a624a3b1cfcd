/- Contracts on caches: DropStatement of both. -/
import Derived.Test.YtkbbjkjdcdjnbaaWC5
namespace Go.Proofs.Ytkbbjkjdcdjnbaa
open Go.RowKit
/-- A cache, or none. -/
def CaD (o : Option (List Int)) (r : Int) (w : World) (e : Ending) (w' : World) : Prop :=
  match o with
  | none => e = .returned (.tuple #[.agg #[.int .i64 0, .slice none 0 0], .bool false]) ∧ Below w.heap.size w w'
  | some zs => CaB zs r true w e w'
theorem caD_none {o : Option (List Int)} {r : Int} {w w' : World} {e : Ending} (h : o = none) (he : e = .returned (.tuple #[.agg #[.int .i64 0, .slice none 0 0], .bool false])) (hb : Below w.heap.size w w') : CaD o r w e w' := by
  subst h; exact ⟨he, hb⟩
theorem DRP_no1 {r : Int} {xs : List Int} {v : Int} (h : VCa r xs = false) : DRP r xs v = none := if_neg fun h' => by rw [h] at h'; cases h'.1
theorem DRP_no2 {r : Int} {xs : List Int} {v : Int} (h : hasB xs v = false) : DRP r xs v = none := if_neg fun h' => by rw [h] at h'; cases h'.2
theorem DRP_ok {r : Int} {xs : List Int} {v : Int} (h : VCa r xs = true) (h2 : hasB xs v = true) : DRP r xs v = some (lv xs v) := if_pos ⟨h, h2⟩
set_option maxRecDepth 100000 in
set_option maxHeartbeats 2000000 in
theorem dr_any (r : Int) (A : Option Addr) (c : Nat) (xs : List Int) (v : Int) (w : World) (h : SlI w A c xs) :
    Calls Try.prog 21 #[.agg #[.int .i64 r, .slice A xs.length c], .int .i64 v] w (CaD (DRP r xs v) r w) := by
  obtain ⟨W0, hW0⟩ : ∃ W0, W0 = (w.alloc (.cells #[.int .i64 r, .slice A xs.length c] 25)).alloc (.cells #[.int .i64 0, .slice none 0 0] 25) := ⟨_, rfl⟩
  have hb0 : Below w.heap.size w W0 := by rw [hW0]; exact ext_alloc (ext_alloc (Below.refl _ _) _) _
  have hx0 : Cx 25 W0 w.heap.size (.int .i64 r) (.slice A xs.length c) := by rw [hW0]; exact (Cx.new w _ _).alloc _
  have hr0 : Cx 25 W0 (w.heap.size + 1) (.int .i64 0) (.slice none 0 0) := by
    rw [hW0]
    have := Cx.new (e := 25) (w.alloc (.cells #[.int .i64 r, .slice A xs.length c] 25)) (.int .i64 0) (.slice none 0 0)
    simpa using this
  have hlW : w.heap.size + 1 < W0.heap.size := hr0.lt
  have s0 := h.ext hb0
  have b0 := hx0.c0
  have b1 := hx0.c1
  have HX0 := hd hx0
  have HR0 := hd hr0
  have HB0 := hd hb0
  clear hx0 hr0 hb0 h
  cases hv : VCa r xs with
  | false =>
    have HN := hd (DRP_no1 (v := v) hv)
    obtain ⟨z, hz⟩ : ∃ z, ixB xs v = z := ⟨_, rfl⟩
    have HI := hd hz
    clear hz
    go_enter Try.func21, Try.ntmps21
    go_wp2_with fail
    rw [← hW0]
    clear hW0
    refine (idx_any _ _ _ v _ s0).mono ?_
    rintro e w0 ⟨rfl, rfl⟩
    rw [HI.out]
    go_wp2_with fail
    refine (vca_any _ _ _ _ _ s0).mono ?_
    rintro e w1 ⟨rfl, hx⟩
    rw [hv]
    have bz := HR0.out.ext hx
    have s1 := s0.ext hx
    have z0 := bz.c0
    have z1 := bz.c1
    have y0 := bz.free 0
    have y1 := bz.free 1
    have bx := HX0.out.ext hx
    have hb1 := HB0.out.trans (hx.mono HB0.out.size)
    clear bz hx b0 b1 s0
    have b0 := bx.c0
    have b1 := bx.c1
    clear bx
    go_wp2
    refine bodyPost_ret (v := .tuple #[.agg #[.int .i64 0, .slice none 0 0], .bool false]) (by simp [results, Try.results21, go_sem, z0, z1]) rfl ?_
    exact caD_none HN.out rfl (cset2_old hb1 (by omega))
  | true =>
    cases h2 : hasB xs v with
    | false =>
      have HN := hd (DRP_no2 (r := r) h2)
      have hix := ixB_none (hasB_no.1 h2)
      go_enter Try.func21, Try.ntmps21
      go_wp2_with fail
      rw [← hW0]
      clear hW0
      refine (idx_any _ _ _ v _ s0).mono ?_
      rintro e w0 ⟨rfl, rfl⟩
      rw [hix]
      go_wp2_with fail
      refine (vca_any _ _ _ _ _ s0).mono ?_
      rintro e w1 ⟨rfl, hx⟩
      rw [hv]
      have bz := HR0.out.ext hx
      have s1 := s0.ext hx
      have z0 := bz.c0
      have z1 := bz.c1
      have y0 := bz.free 0
      have y1 := bz.free 1
      have bx := HX0.out.ext hx
      have hb1 := HB0.out.trans (hx.mono HB0.out.size)
      clear bz hx b0 b1 s0
      have b0 := bx.c0
      have b1 := bx.c1
      clear bx
      go_wp2
      refine bodyPost_ret (v := .tuple #[.agg #[.int .i64 0, .slice none 0 0], .bool false]) (by simp [results, Try.results21, go_sem, z0, z1]) rfl ?_
      exact caD_none HN.out rfl (cset2_old hb1 (by omega))
    | true =>
      have HU := hd (DRP_ok hv h2)
      have V := validC_iff.1 hv
      have l6 : xs.length ≤ 6 := by have := V.len; have := V.r1; omega
      obtain ⟨i, hi, hix, hiv⟩ := ixB_at (hasB_iff.1 h2)
      have hev : xs.eraseIdx i = lv xs v := by rw [lv_erase V.nd hi, hiv]
      obtain ⟨zs, hzs⟩ : ∃ zs, zs = lv xs v := ⟨_, rfl⟩
      have hzl : zs.length ≤ 6 := by rw [hzs]; have := lv_len xs v; omega
      rw [← hzs] at hev HU
      have HE := hd hev
      clear hzs hev V hiv
      have gi : decide ((i : Int) < 0) = false := decide_eq_false (by omega)
      have hwr : IntKind.i64.wrap ((i : Int) + 1) = (i : Int) + 1 := by rw [IntKind.wrap_i64]; omega
      go_enter Try.func21, Try.ntmps21
      go_wp2_with fail
      rw [← hW0]
      clear hW0
      refine (idx_any _ _ _ v _ s0).mono ?_
      rintro e w0 ⟨rfl, rfl⟩
      rw [hix]
      go_wp2_with fail
      refine (vca_any _ _ _ _ _ s0).mono ?_
      rintro e w1 ⟨rfl, hx⟩
      rw [hv]
      have bz := HR0.out.ext hx
      have bx := HX0.out.ext hx
      have s1 := s0.ext hx
      have hb1 := HB0.out.trans (hx.mono HB0.out.size)
      have hz1 := hx.size
      clear hx s0 b0 b1
      have b0 := bx.c0
      have b1 := bx.c1
      have ne1 : w.heap.size + 1 ≠ w.heap.size := by omega
      have ne2 : w.heap.size ≠ w.heap.size + 1 := by omega
      have hbd : Below w.heap.size w w1.drew := ext_drew hb1
      have H1 := hd (And.intro (show Cx 25 w1.drew (w.heap.size + 1) (.int .i64 0) (.slice none 0 0) from bz) (And.intro (show Cx 25 w1.drew w.heap.size (.int .i64 r) (.slice A xs.length c) from bx) hbd))
      have hdz : w1.drew.heap.size = w1.heap.size := rfl
      have CL := hd (cloneI0_any A c xs w1.drew (show SlI w1.drew A c xs from s1) (by omega))
      clear bz bx s1 hb1 hbd
      go_wp2_with fail
      go_region_held3 (fun W => W.cell? ⟨w.heap.size, 0, none⟩ = some (.int .i64 r) ∧ W.cell? ⟨w.heap.size, 1, none⟩ = some (.slice A xs.length c)) (go_keep)
        (first
          | (go_at_call 36; (with_reducible refine CL.out.mono ?_); rintro e w4 ⟨P0, p0, rfl, r4, hx⟩; have bx4 := H1.out.2.1.ext hx; have bz4 := H1.out.1.ext hx; have d0 := bx4.c0; have d1 := bx4.c1; have hb4 := H1.out.2.2.trans (hx.mono H1.out.2.2.size); have hz4 := hx.size; have H4 := hd (And.intro bz4 (And.intro bx4 hb4)); clear bz4 bx4 hx hb4)
          | (go_at_call 35; (with_reducible refine (delI_any w1.drew.heap.size P0 _ p0 xs i _ _ r4 rfl hi rfl).mono ?_); rintro e w5 ⟨rfl, r5, hg5⟩; rw [HE.out] at r5; rw [HE.out]; have hgr : ∀ j, rowOf P0 xs.length = some j → w1.heap.size ≤ j := (fun j hj => (Rw.row r4 j hj).1); have bx5 := H4.out.2.1.far hg5 (fun e => by have := hgr _ e; omega); have bz5 := H4.out.1.far hg5 (fun e => by have := hgr _ e; omega); have e0 := bx5.c0; have e1 := bx5.c1; have hb5 := H4.out.2.2.grown hg5 H4.out.2.2.size (fun j e => by have := hgr j e; omega); have hz5 := hg5.size; have H5 := hd (And.intro bz5 (And.intro bx5 hb5)); have s5 := r5.sl; clear bz5 bx5 hb5 hg5 r5)
          | (go_at_call 34; (with_reducible refine (cloneI_any P0 p0 zs w5 s5 (by omega)).mono ?_); rintro e w6 ⟨P, p, rfl, rP, hx⟩; have bx6 := H5.out.2.1.ext hx; have f0 := bx6.c0; have f1 := bx6.c1; have bz6 := H5.out.1.ext hx; have z0 := bz6.c0; have z1 := bz6.c1; have y0 := bz6.free 0; have y1 := bz6.free 1; have HP := hd rP; have HBB := hd (H5.out.2.2.trans (hx.mono H5.out.2.2.size)); clear bx6 bz6 rP hx)
          | fail)
      all_goals go_wp2
      all_goals (
        refine bodyPost_ret (v := .tuple #[.agg #[.int .i64 r, .slice P zs.length p], .bool true]) (by simp [results, Try.results21, go_sem, z0, z1]) rfl ?_
        rw [HU.out]
        exact ⟨P, p, rfl, (Rw.apart HP.out (set2g _ (w.heap.size + 1) _ _) (fun j hj e => by injection e with e; have := (Rw.row HP.out j hj).1; omega)).low (by omega), cset2_old HBB.out (by omega)⟩)
set_option maxRecDepth 100000 in
set_option maxHeartbeats 2000000 in
theorem sdr_any (r : Int) (A : Option Addr) (c : Nat) (xs : List Int) (v : Int) (w : World) (h : SlI w A c xs) :
    Calls Try.prog 22 #[.agg #[.int .i64 r, .slice A xs.length c], .int .i64 v] w (CaD (DRP r xs v) r w) := by
  obtain ⟨W0, hW0⟩ : ∃ W0, W0 = (w.alloc (.cells #[.int .i64 r, .slice A xs.length c] 25)).alloc (.cells #[.int .i64 0, .slice none 0 0] 25) := ⟨_, rfl⟩
  have hb0 : Below w.heap.size w W0 := by rw [hW0]; exact ext_alloc (ext_alloc (Below.refl _ _) _) _
  have hx0 : Cx 25 W0 w.heap.size (.int .i64 r) (.slice A xs.length c) := by rw [hW0]; exact (Cx.new w _ _).alloc _
  have hr0 : Cx 25 W0 (w.heap.size + 1) (.int .i64 0) (.slice none 0 0) := by
    rw [hW0]
    have := Cx.new (e := 25) (w.alloc (.cells #[.int .i64 r, .slice A xs.length c] 25)) (.int .i64 0) (.slice none 0 0)
    simpa using this
  have hlW : w.heap.size + 1 < W0.heap.size := hr0.lt
  have s0 := h.ext hb0
  have b0 := hx0.c0
  have b1 := hx0.c1
  have HX0 := hd hx0
  have HR0 := hd hr0
  have HB0 := hd hb0
  clear hx0 hr0 hb0 h
  cases hv : VCa r xs with
  | false =>
    have HN := hd (DRP_no1 (v := v) hv)
    go_enter Try.func22, Try.ntmps22
    go_wp2_with fail
    rw [← hW0]
    clear hW0
    refine (svca_any _ _ _ _ _ s0).mono ?_
    rintro e w1 ⟨rfl, hx⟩
    rw [hv]
    have bz := HR0.out.ext hx
    have s1 := s0.ext hx
    have z0 := bz.c0
    have z1 := bz.c1
    have y0 := bz.free 0
    have y1 := bz.free 1
    have bx := HX0.out.ext hx
    have hb1 := HB0.out.trans (hx.mono HB0.out.size)
    clear bz hx b0 b1 s0
    have b0 := bx.c0
    have b1 := bx.c1
    clear bx
    go_wp2
    refine bodyPost_ret (v := .tuple #[.agg #[.int .i64 0, .slice none 0 0], .bool false]) (by simp [results, Try.results22, go_sem, z0, z1]) rfl ?_
    exact caD_none HN.out rfl (cset2_old hb1 (by omega))
  | true =>
    cases h2 : hasB xs v with
    | false =>
      have HN := hd (DRP_no2 (r := r) h2)
      go_enter Try.func22, Try.ntmps22
      go_wp2_with fail
      rw [← hW0]
      clear hW0
      refine (svca_any _ _ _ _ _ s0).mono ?_
      rintro e w1 ⟨rfl, hx⟩
      rw [hv]
      have bz := HR0.out.ext hx
      have s1 := s0.ext hx
      have z0 := bz.c0
      have z1 := bz.c1
      have y0 := bz.free 0
      have y1 := bz.free 1
      have bx := HX0.out.ext hx
      have hb1 := HB0.out.trans (hx.mono HB0.out.size)
      clear bz hx b0 b1 s0
      have b0 := bx.c0
      have b1 := bx.c1
      clear bx
      go_wp2_with (go_at_call 32; refine (isIn_any A _ c xs v _ s1 rfl).mono ?_; rintro e w2 ⟨rfl, rfl⟩; rw [h2])
      refine bodyPost_ret (v := .tuple #[.agg #[.int .i64 0, .slice none 0 0], .bool false]) (by simp [results, Try.results22, go_sem, z0, z1]) rfl ?_
      exact caD_none HN.out rfl (cset2_old hb1 (by omega))
    | true =>
      have HU := hd (DRP_ok hv h2)
      have V := validC_iff.1 hv
      have l6 : xs.length ≤ 6 := by have := V.len; have := V.r1; omega
      obtain ⟨zs, hzs⟩ : ∃ zs, zs = lv xs v := ⟨_, rfl⟩
      rw [← hzs] at HU
      have HZ := hd hzs
      clear hzs V
      go_enter Try.func22, Try.ntmps22
      go_wp2_with fail
      rw [← hW0]
      clear hW0
      refine (svca_any _ _ _ _ _ s0).mono ?_
      rintro e w1 ⟨rfl, hx⟩
      rw [hv]
      have bz := HR0.out.ext hx
      have bx := HX0.out.ext hx
      have s1 := s0.ext hx
      have hb1 := HB0.out.trans (hx.mono HB0.out.size)
      have hz1 := hx.size
      clear hx s0 b0 b1
      have b0 := bx.c0
      have b1 := bx.c1
      have ne1 : w.heap.size + 1 ≠ w.heap.size := by omega
      have ne2 : w.heap.size ≠ w.heap.size + 1 := by omega
      go_wp2_with (go_at_call 32; refine (isIn_any A _ c xs v _ s1 rfl).mono ?_; rintro e w2 ⟨rfl, rfl⟩; rw [h2])
      have hbd : Below w.heap.size w w2.drew := ext_drew hb1
      have H1 := hd (And.intro (show Cx 25 w2.drew (w.heap.size + 1) (.int .i64 0) (.slice none 0 0) from bz) (And.intro (show Cx 25 w2.drew w.heap.size (.int .i64 r) (.slice A xs.length c) from bx) hbd))
      have hdz : w2.drew.heap.size = w2.heap.size := rfl
      have CL := hd (leave_any A c xs v w2.drew (show SlI w2.drew A c xs from s1) (by omega))
      rw [← HZ.out] at CL
      clear bz bx s1 hb1 hbd
      go_region_held3 (fun W => W.cell? ⟨w.heap.size, 0, none⟩ = some (.int .i64 r) ∧ W.cell? ⟨w.heap.size, 1, none⟩ = some (.slice A xs.length c)) (go_keep)
        (first
          | (go_at_call 37; (with_reducible refine CL.out.mono ?_); rintro e w6 ⟨u6, rfl, ho6, hx⟩; obtain ⟨P, p, rfl, rP⟩ := rwI_of_own ho6 rfl rfl; have bx6 := H1.out.2.1.ext hx; have f0 := bx6.c0; have f1 := bx6.c1; have bz6 := H1.out.1.ext hx; have z0 := bz6.c0; have z1 := bz6.c1; have y0 := bz6.free 0; have y1 := bz6.free 1; have HP := hd rP; have HBB := hd (H1.out.2.2.trans (hx.mono H1.out.2.2.size)); clear bx6 bz6 rP hx ho6)
          | fail)
      all_goals go_wp2
      all_goals (
        refine bodyPost_ret (v := .tuple #[.agg #[.int .i64 r, .slice P zs.length p], .bool true]) (by simp [results, Try.results22, go_sem, z0, z1]) rfl ?_
        rw [HU.out]
        exact ⟨P, p, rfl, (Rw.apart HP.out (set2g _ (w.heap.size + 1) _ _) (fun j hj e => by injection e with e; have := (Rw.row HP.out j hj).1; omega)).low (by omega), cset2_old HBB.out (by omega)⟩)
end Go.Proofs.Ytkbbjkjdcdjnbaa
