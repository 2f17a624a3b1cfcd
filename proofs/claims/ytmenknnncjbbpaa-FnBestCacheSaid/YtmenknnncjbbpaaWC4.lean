/- Contracts on caches: use of both. -/
import Derived.Test.YtmenknnncjbbpaaWC3
namespace Go.Proofs.Ytmenknnncjbbpaa
open Go.RowKit
/-- A cache handed back, and a word. -/
def CaB (zs : List Int) (r : Int) (b : Bool) (w : World) (e : Ending) (w' : World) : Prop :=
  ∃ (P : Option Addr) (p : Nat), e = .returned (.tuple #[.agg #[.int .i64 r, .slice P zs.length p], .bool b]) ∧ RwI w' w.heap.size P p zs ∧ Below w.heap.size w w'
/-- A cache handed back. -/
def CaO (zs : List Int) (r : Int) (w : World) (e : Ending) (w' : World) : Prop :=
  ∃ (P : Option Addr) (p : Nat), e = .returned (.agg #[.int .i64 r, .slice P zs.length p]) ∧ RwI w' w.heap.size P p zs ∧ Below w.heap.size w w'
theorem US_all {r : Int} {xs : List Int} {v : Int} (h : ((lv xs v).length : Int) + 1 ≤ r) : US r xs v = lv xs v ++ [v] := by
  unfold US
  rw [show (lv xs v).length + 1 - r.toNat = 0 by omega]
  rfl
theorem US_one {r : Int} {xs : List Int} {v : Int} (h : ((lv xs v).length : Int) + 1 = r + 1) (h0 : 0 ≤ r) : US r xs v = (lv xs v ++ [v]).drop 1 := by
  unfold US
  rw [show (lv xs v).length + 1 - r.toNat = 1 by omega]
set_option maxRecDepth 100000 in
set_option maxHeartbeats 2000000 in
theorem use_any (r : Int) (A : Option Addr) (c : Nat) (xs : List Int) (v : Int) (w : World) (h : SlI w A c xs) (V : ValidC r xs) :
    Calls Try.prog 30 #[.agg #[.int .i64 r, .slice A xs.length c], .int .i64 v] w (CaB (US r xs v) r (hasB xs v) w) := by
  obtain ⟨W0, hW0⟩ : ∃ W0, W0 = ((w.alloc (.cells #[.int .i64 r, .slice A xs.length c] 31)).alloc (.cells #[.int .i64 v] 3)).alloc (.cells #[.int .i64 0, .slice none 0 0] 31) := ⟨_, rfl⟩
  have hb0 : Below w.heap.size w W0 := by rw [hW0]; exact ext_alloc (ext_alloc (ext_alloc (Below.refl _ _) _) _) _
  have hx0 : Cx 31 W0 w.heap.size (.int .i64 r) (.slice A xs.length c) := by rw [hW0]; exact ((Cx.new w _ _).alloc _).alloc _
  have hv0 : W0.cell? ⟨w.heap.size + 1, 0, none⟩ = some (.int .i64 v) := by
    rw [hW0, World.cell?_alloc_lt _ _ _ (by simp)]
    have : w.heap.size + 1 = (w.alloc (.cells #[.int .i64 r, .slice A xs.length c] 31)).heap.size := by simp
    rw [this, cell_of_row _ _ _ _ _ _ (heap_alloc_new _ _)]; rfl
  have hr0 : Cx 31 W0 (w.heap.size + 2) (.int .i64 0) (.slice none 0 0) := by
    rw [hW0]
    have := Cx.new (e := 31) ((w.alloc (.cells #[.int .i64 r, .slice A xs.length c] 31)).alloc (.cells #[.int .i64 v] 3)) (.int .i64 0) (.slice none 0 0)
    simpa using this
  have hlW : w.heap.size + 2 < W0.heap.size := hr0.lt
  have s0 := h.ext hb0
  have b0 := hx0.c0
  have b1 := hx0.c1
  have HX0 := hd hx0
  have HR0 := hd hr0
  have HB0 := hd hb0
  have l6 := V.len
  have r0 := V.r0
  have r6 := V.r1
  have hl1 := lv_len xs v
  have HB := hd (show decide ((lv xs v).length < xs.length) = hasB xs v by
    unfold hasB
    by_cases hm : v ∈ xs
    · rw [decide_eq_true hm, decide_eq_true (lv_lt.2 hm)]
    · rw [decide_eq_false hm, decide_eq_false (fun h => hm (lv_lt.1 h))])
  obtain ⟨ns, hns⟩ : ∃ ns, ns = lv xs v := ⟨_, rfl⟩
  have HU1 := hd (fun h1 => US_all (r := r) (xs := xs) (v := v) h1)
  have HU2 := hd (fun h1 => US_one (r := r) (xs := xs) (v := v) h1 r0)
  rw [← hns] at HU1 HU2 HB hl1
  have HN := hd hns
  clear hx0 hr0 hb0 h V hns
  go_enter Try.func30, Try.ntmps30
  go_wp2_with fail
  rw [← hW0]
  clear hW0
  refine (cloneO_any A c xs W0 s0 (by omega)).mono ?_
  rintro e w1 ⟨u, rfl, hown, hx⟩
  have bx := HX0.out.ext hx
  have bz := HR0.out.ext hx
  have cv : w1.cell? ⟨w.heap.size + 1, 0, none⟩ = some (.int .i64 v) := (hx.cell (by show w.heap.size + 1 < _; omega)).trans hv0
  have hb1 := HB0.out.trans (hx.mono HB0.out.size)
  have hz1 := hx.size
  clear hx b0 b1 hv0 s0
  go_wp2_with fail
  refine (delfO_any W0.heap.size u xs v (w.heap.size + 1) w1 hown (by omega) cv).mono ?_
  rintro e w2 ⟨u2, rfl, hown2, hg⟩
  rw [← HN.out] at hown2
  have hge := own_ge hown
  replace bx := bx.far hg (fun e => by have := hge _ e; omega)
  replace bz := bz.far hg (fun e => by have := hge _ e; omega)
  replace cv := hg.cell cv (fun e => by have := hge _ e.symm; simp at this; omega)
  replace hb1 := hb1.grown hg hb1.size (fun k e => by have := hge _ e; omega)
  have hz2 := hg.size
  obtain ⟨A2, c2, rfl, r2⟩ := rwI_of_own hown2 rfl rfl
  have b0 := bx.c0
  have b1 := bx.c1
  clear hg hge hown
  go_wp2_with (at_builtin; refine wpList_app eltI _ _ (news := ci [v]) (m := 1) hown2 rfl (ci_one _) (by omega) (by omega) (by omega) (by rfl) (by rfl) (by rfl) (by rfl) ?_; intro v' w4 hown4 hg4; have hge2 := own_ge hown2; replace bx := bx.far hg4 (fun e => by have := hge2 _ e; omega); replace bz := bz.far hg4 (fun e => by have := hge2 _ e; omega); replace hb1 := hb1.grown hg4 hb1.size (fun k e => by have := hge2 _ e; omega); obtain ⟨ms, hms⟩ : ∃ ms, ms = ns ++ [v] := ⟨_, rfl⟩; obtain ⟨A3, c3, rfl, r3⟩ := rwI_of_own (zs := ms) hown4 (by rw [hms, ci_append]) (by rw [hms]; simp); have HM := hd hms; have hml : ms.length ≤ ns.length + 1 := (by rw [hms]; simp); have hml2 : ns.length + 1 ≤ ms.length := (by rw [hms]; simp); clear hms; replace b0 := bx.c0; replace b1 := bx.c1)
  have ez : w.heap.size + 1 + 1 = w.heap.size + 2 := rfl
  have r3c := r3.sl.cap
  have r3m := r3.sl.max
  unfold maxLen at r3m
  have ne1 : w.heap.size + 2 ≠ w.heap.size := by omega
  have ne2 : w.heap.size ≠ w.heap.size + 2 := by omega
  have hr3 := hd (And.intro r3 (And.intro (show Cx 31 w4.drew (w.heap.size + 2) (.int .i64 0) (.slice none 0 0) from bz) (show Below w.heap.size w w4.drew from ext_drew hb1)))
  have hX4 := hd (show Cx 31 w4.drew w.heap.size (.int .i64 r) (.slice A xs.length c) from bx)
  clear bx bz cv hown2 r2 hown4 hg4 hge2 hb1
  have hlw4 : w.heap.size + 2 < w4.heap.size := hr3.out.2.1.lt
  by_cases hfit : (ms.length : Int) ≤ r
  · have hnr : ¬ r < (ms.length : Int) := by omega
    have hw0 : IntKind.i64.wrap ((ms.length : Int) - r) = (ms.length : Int) - r := by rw [IntKind.wrap_i64]; omega
    have HZS := hd (show ms = US r xs v by rw [HU1.out (by omega), HM.out])
    have CL := hd (cloneI_any A3 c3 ms w4.drew (hr3.out.1.sl : SlI w4 A3 c3 ms) (by omega))
    have hfin : Hid True := trivial
    clear HU1 HU2 HM
    go_region_held3 (fun W => W.cell? ⟨w.heap.size, 0, none⟩ = some (.int .i64 r) ∧ W.cell? ⟨w.heap.size, 1, none⟩ = some (.slice A xs.length c)) (go_keep)
      (first
        | (go_at_call 42; (with_reducible refine CL.out.mono ?_); rintro e w5 ⟨P, p, rfl, rP, hx⟩; have bx5 := hX4.out.ext hx; have d0 := bx5.c0; have d1 := bx5.c1; have bz5 := hr3.out.2.1.ext hx; have z0 := bz5.c0; have z1 := bz5.c1; have y0 := bz5.free 0; have y1 := bz5.free 1; have HP := hd rP; have HBB := hd (hr3.out.2.2.trans (hx.mono hr3.out.2.2.size)); clear bx5 bz5 rP hx)
        | fail)
    all_goals go_wp2
    all_goals (
      refine bodyPost_ret (v := .tuple #[.agg #[.int .i64 r, .slice P ms.length p], .bool (decide (ns.length < xs.length))]) (by simp [results, Try.results30, go_sem, z0, z1]) rfl ?_
      have rP' := (HP.out.low (B' := w.heap.size) (by have := hr3.out.2.2.size; show w.heap.size ≤ w4.heap.size; omega))
      have rr := Rw.apart rP' (set2g w5 (w.heap.size + 2) (.int .i64 r) (.slice P ms.length p)) (fun j hj e => by injection e with e; have := (Rw.row HP.out j hj).1; have h5 : w4.drew.heap.size = w4.heap.size := rfl; omega)
      rw [← HZS.out, ← HB.out]
      exact ⟨P, p, rfl, rr, cset2_old HBB.out (by omega)⟩)
  · have hd1 : (ms.length : Int) - r = 1 := by omega
    have h1i : (1 : Int) ≤ (ms.length : Int) := by omega
    have hw1 : IntKind.i64.wrap 1 = 1 := by decide
    have hnr : r < (ms.length : Int) := by omega
    have h1m : 1 ≤ ms.length := by omega
    obtain ⟨zs, hzs⟩ : ∃ zs, zs = ms.drop 1 := ⟨_, rfl⟩
    have HZS := hd (show zs = US r xs v by rw [HU2.out (by omega), hzs, HM.out])
    obtain ⟨A', hA', hdr⟩ : ∃ A', (if c3 = 1 then A3 else Option.map (fun x => ({ block := x.block, off := x.off + 1 } : Addr)) A3) = A' ∧ SlI w4.drew A' (c3 - 1) zs := by
      have h1 := SlI.drop (hr3.out.1.sl : SlI w4 A3 c3 ms) h1m
      exact ⟨_, rfl, by rw [hzs]; exact h1⟩
    have hzl : ms.length - 1 = zs.length := by rw [hzs, List.length_drop]
    have CL := hd (cloneI_any A' (c3 - 1) zs w4.drew hdr (by omega))
    rw [← hzl] at CL
    have HZL := hd hzl
    clear HU1 HU2 HM hzs hdr hfit hzl
    go_region_held3 (fun W => W.cell? ⟨w.heap.size, 0, none⟩ = some (.int .i64 r) ∧ W.cell? ⟨w.heap.size, 1, none⟩ = some (.slice A xs.length c)) (go_keep)
      (first
        | (go_at_call 42; (with_reducible refine CL.out.mono ?_); rintro e w5 ⟨P, p, rfl, rP, hx⟩; have bx5 := hX4.out.ext hx; have d0 := bx5.c0; have d1 := bx5.c1; have bz5 := hr3.out.2.1.ext hx; have z0 := bz5.c0; have z1 := bz5.c1; have y0 := bz5.free 0; have y1 := bz5.free 1; have HP := hd rP; have HBB := hd (hr3.out.2.2.trans (hx.mono hr3.out.2.2.size)); clear bx5 bz5 rP hx)
        | fail)
    all_goals go_wp2
    all_goals (
      refine bodyPost_ret (v := .tuple #[.agg #[.int .i64 r, .slice P zs.length p], .bool (decide (ns.length < xs.length))]) (by simp [results, Try.results30, go_sem, z0, z1]) rfl ?_
      have rP' := (HP.out.low (B' := w.heap.size) (by have := hr3.out.2.2.size; show w.heap.size ≤ w4.heap.size; omega))
      have rr := Rw.apart rP' (set2g w5 (w.heap.size + 2) (.int .i64 r) (.slice P zs.length p)) (fun j hj e => by injection e with e; have := (Rw.row HP.out j hj).1; have h5 : w4.drew.heap.size = w4.heap.size := rfl; omega)
      rw [← HZS.out, ← HB.out]
      exact ⟨P, p, rfl, rr, cset2_old HBB.out (by omega)⟩)
end Go.Proofs.Ytmenknnncjbbpaa
