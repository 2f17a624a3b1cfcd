/- Contracts on shares: add, GiveShare, TakeShare of both. -/
import Derived.Test.YtjgijfmnplcdkaaWSa
namespace Go.Proofs.Ytjgijfmnplcdkaa
open Go.RowKit
/-- A share, or none, in new memory. -/
def ShO : Option (List Int) → Int → List Int → World → Ending → World → Prop
  | none, _, _, w, e, w' => e = .returned (.tuple #[.agg #[.int .i64 0, .slice none 0 0, .slice none 0 0], .bool false]) ∧ Below w.heap.size w w'
  | some zs, t, xs, w, e, w' => ∃ (P : Option Addr) (p : Nat) (Q : Option Addr) (q : Nat), e = .returned (.tuple #[.agg #[.int .i64 t, .slice P xs.length p, .slice Q zs.length q], .bool true]) ∧ RwI w' w.heap.size P p xs ∧ RwI w' w.heap.size Q q zs ∧ (∀ j, rowOf P xs.length = some j → rowOf Q zs.length ≠ some j) ∧ Below w.heap.size w w'
theorem shO_none {o : Option (List Int)} {t : Int} {xs : List Int} {w w' : World} {e : Ending} (h : o = none) (he : e = .returned (.tuple #[.agg #[.int .i64 0, .slice none 0 0, .slice none 0 0], .bool false])) (hb : Below w.heap.size w w') : ShO o t xs w e w' := by
  subst h; exact ⟨he, hb⟩
/-- What is stored into the result's own block leaves new numbers alone. -/
theorem res_apart {w W0 X : World} {r : Nat} {A : Option Addr} {c : Nat} {us : List Int} {a b d : Value} (h : RwI X W0.heap.size A c us) (hr : r < W0.heap.size) (hw : w.heap.size ≤ W0.heap.size) :
    RwI (((X.setCell ⟨r, 0, none⟩ a).setCell ⟨r, 1, none⟩ b).setCell ⟨r, 2, none⟩ d) w.heap.size A c us :=
  (Rw.apart h (set3_grown0 X r a b d) (fun j hj e => by
    have := (Rw.row h j hj).1
    injection e with e
    omega)).low hw
theorem res_below {w X : World} {r : Nat} {a b d : Value} (h : Below w.heap.size w X) (hr : w.heap.size ≤ r) :
    Below w.heap.size w (((X.setCell ⟨r, 0, none⟩ a).setCell ⟨r, 1, none⟩ b).setCell ⟨r, 2, none⟩ d) :=
  h.grown (set3_grown0 X r a b d) h.size (fun j e => by injection e with e; omega)
set_option maxHeartbeats 400000 in
theorem isOwner_any (n : Int) (w : World) : Calls Try.prog 32 #[.int .i64 n] w fun e w' => e = .returned (.bool (inB n 0 4)) ∧ w = w' := by
  go_enter Try.func32, Try.ntmps32
  go_wp2_with fail
  refine (in_any _ _ _ _).mono ?_
  rintro e w' ⟨rfl, rfl⟩
  go_wp2
  go_ret
  exact ⟨rfl, rfl⟩
set_option maxRecDepth 100000 in
set_option maxHeartbeats 2000000 in
theorem add_any (t : Int) (A : Option Addr) (c : Nat) (xs : List Int) (B : Option Addr) (d : Nat) (ys : List Int) (oi v : Int) (w : World) (h : SlI w A c xs) (h' : SlI w B d ys) (hv1 : -1 ≤ v) (hv2 : v ≤ 1) :
    Calls Try.prog 19 #[.agg #[.int .i64 t, .slice A xs.length c, .slice B ys.length d], .int .i64 oi, .int .i64 v] w (ShO (AD t xs ys oi v) t xs w) := by
  obtain ⟨W0, hW0⟩ : ∃ W0, W0 = (w.alloc (.cells #[.int .i64 t, .slice A xs.length c, .slice B ys.length d] 25)).alloc (.cells #[.int .i64 0, .slice none 0 0, .slice none 0 0] 25) := ⟨_, rfl⟩
  have hb0 : Below w.heap.size w W0 := by rw [hW0]; exact ext_alloc (ext_alloc (Below.refl _ _) _) _
  have hx0 : Bx W0 w.heap.size (.int .i64 t) (.slice A xs.length c) (.slice B ys.length d) := by rw [hW0]; exact (Bx.new w _ _ _).alloc _
  have hr0 : Bx W0 (w.heap.size + 1) (.int .i64 0) (.slice none 0 0) (.slice none 0 0) := by
    rw [hW0]
    have := Bx.new (w.alloc (.cells #[.int .i64 t, .slice A xs.length c, .slice B ys.length d] 25)) (.int .i64 0) (.slice none 0 0) (.slice none 0 0)
    rwa [World.size_alloc] at this
  have hW2 : w.heap.size + 2 ≤ W0.heap.size := by rw [hW0]; simp
  have s0 := h.ext hb0
  have s0' := h'.ext hb0
  have b0 := hx0.c0
  have b1 := hx0.c1
  have b2 := hx0.c2
  have HX0 := hd hx0
  have HR0 := hd hr0
  have HB0 := hd hb0
  clear hx0 hr0 hb0 h h'
  cases h1 : VSh t xs ys with
  | false =>
    have HN := hd (AD_no1 (o := oi) (v := v) h1)
    go_enter Try.func19, Try.ntmps19
    go_wp2_with fail
    rw [← hW0]
    clear hW0
    refine (vsh_any _ _ _ _ _ _ _ _ s0 s0').mono ?_
    rintro e w1 ⟨rfl, hx⟩
    rw [h1]
    have bz := HR0.out.ext hx
    have z0 := bz.c0
    have z1 := bz.c1
    have z2 := bz.c2
    have y0 := bz.free 0
    have y1 := bz.free 1
    have y2 := bz.free 2
    have hb1 := HB0.out.trans (hx.mono HB0.out.size)
    clear bz hx
    go_wp2
    refine bodyPost_ret (v := .tuple #[.agg #[.int .i64 0, .slice none 0 0, .slice none 0 0], .bool false]) (by simp [results, Try.results19, go_sem, z0, z1, z2]) rfl ?_
    exact shO_none HN.out rfl (res_below hb1 (by omega))
  | true =>
    cases h2 : inB oi 0 4 with
    | false =>
      have HN := hd (AD_no2 (t := t) (xs := xs) (ys := ys) (v := v) h2)
      go_enter Try.func19, Try.ntmps19
      go_wp2_with fail
      rw [← hW0]
      clear hW0
      refine (vsh_any _ _ _ _ _ _ _ _ s0 s0').mono ?_
      rintro e w1 ⟨rfl, hx⟩
      rw [h1]
      have bz := HR0.out.ext hx
      have z0 := bz.c0
      have z1 := bz.c1
      have z2 := bz.c2
      have y0 := bz.free 0
      have y1 := bz.free 1
      have y2 := bz.free 2
      have hb1 := HB0.out.trans (hx.mono HB0.out.size)
      clear bz hx
      go_wp2_with (go_at_call 32; refine (isOwner_any _ _).mono ?_; rintro e w2 ⟨rfl, rfl⟩; rw [h2])
      refine bodyPost_ret (v := .tuple #[.agg #[.int .i64 0, .slice none 0 0, .slice none 0 0], .bool false]) (by simp [results, Try.results19, go_sem, z0, z1, z2]) rfl ?_
      exact shO_none HN.out rfl (res_below hb1 (by omega))
    | true =>
      have hh := inB_iff.1 h2
      obtain ⟨o, rfl⟩ : ∃ o : Nat, oi = (o : Int) := ⟨oi.toNat, by omega⟩
      have V := valid_iff.1 h1
      have ho : o < 5 := by omega
      have hx5 : xs.length ≤ 1048576 := by have := V.lx; omega
      have hy5 : ys.length ≤ 1048576 := by have := V.ly; omega
      have hoy : o < ys.length := by have := V.ly; omega
      have hya := V.my o ho
      have hyb := V.mx o ho
      have N3 := hd (fun h3 => AD_no3 (t := t) (xs := xs) (ys := ys) (i := o) (v := v) h3)
      have N4 := hd (fun h3 => AD_ok (t := t) (xs := xs) (ys := ys) (i := o) (v := v) h1 h2 h3)
      clear V
      go_enter Try.func19, Try.ntmps19
      go_wp2_with fail
      rw [← hW0]
      clear hW0
      refine (vsh_any _ _ _ _ _ _ _ _ s0 s0').mono ?_
      rintro e w1 ⟨rfl, hx⟩
      rw [h1]
      have hz1 : W0.heap.size ≤ w1.heap.size := hx.size
      have xD : Bx w1.drew w.heap.size (.int .i64 t) (.slice A xs.length c) (.slice B ys.length d) := HX0.out.ext (ext_drew hx)
      have hr1 := HR0.out.ext hx
      have hb1 := HB0.out.trans (hx.mono HB0.out.size)
      have sA : SlI w1.drew A c xs := s0.ext (ext_drew hx)
      have sB : SlI w1.drew B d ys := s0'.ext (ext_drew hx)
      have ne3 : w1.heap.size ≠ w.heap.size := by omega
      have ne4 : w.heap.size ≠ w1.heap.size := by omega
      have hZ0 : Below w1.heap.size w1 (w1.alloc (.cells #[.int .i64 0, .slice none 0 0, .slice none 0 0] 25)) := ext_alloc (Below.refl _ _) _
      have sAZ : SlI (w1.alloc (.cells #[.int .i64 0, .slice none 0 0, .slice none 0 0] 25)).drew A c xs := Sl.alloc sA (.cells #[.int .i64 0, .slice none 0 0, .slice none 0 0] 25)
      have sBZ0 : SlI (w1.alloc (.cells #[.int .i64 0, .slice none 0 0, .slice none 0 0] 25)).drew B d ys := Sl.alloc sB (.cells #[.int .i64 0, .slice none 0 0, .slice none 0 0] 25)
      have HXZ := hd (show Bx (w1.alloc (.cells #[.int .i64 0, .slice none 0 0, .slice none 0 0] 25)).drew w.heap.size (.int .i64 t) (.slice A xs.length c) (.slice B ys.length d) from Bx.alloc xD (.cells #[.int .i64 0, .slice none 0 0, .slice none 0 0] 25))
      have ZB := hd (show Bx (w1.alloc (.cells #[.int .i64 0, .slice none 0 0, .slice none 0 0] 25)).drew w1.heap.size (.int .i64 0) (.slice none 0 0) (.slice none 0 0) from Bx.new w1 _ _ _)
      have x0 := xD.c0
      have x1 := xD.c1
      have x2 := xD.c2
      have a0 : w1.cell? ⟨w.heap.size, 0, none⟩ = some (.int .i64 t) := x0
      have a1 : w1.cell? ⟨w.heap.size, 1, none⟩ = some (.slice A xs.length c) := x1
      have a2 : w1.cell? ⟨w.heap.size, 2, none⟩ = some (.slice B ys.length d) := x2
      have HX := hd xD
      have HR1 := hd hr1
      have HB1 := hd hb1
      clear xD hr1 hb1 hx x0 x1 x2
      go_upto_region 3 with (go_at_call 32; refine (isOwner_any _ _).mono ?_; rintro e w2 ⟨rfl, rfl⟩; rw [h2])
      go_cut [8] (fun s8 wx => Dup w1 t xs ys s8 wx)
      case first =>
        go_region_held3 (fun W => W.cell? ⟨w.heap.size, 0, none⟩ = some (.int .i64 t) ∧ W.cell? ⟨w.heap.size, 1, none⟩ = some (.slice A xs.length c) ∧ W.cell? ⟨w.heap.size, 2, none⟩ = some (.slice B ys.length d)) (go_keep)
          (first
            | (go_at_call 33; (with_reducible refine (cloneI_any A c xs _ sA hx5).mono ?_); rintro e wM ⟨P, p, rfl, rP, hxP⟩; have xM := HX.out.ext hxP; have m0 := xM.c0; have m1 := xM.c1; have m2 := xM.c2; have sBM := sB.ext hxP; have sBZ : SlI (wM.alloc (.cells #[.int .i64 0, .slice none 0 0, .slice none 0 0] 25)) B d ys := Sl.alloc sBM (.cells #[.int .i64 0, .slice none 0 0, .slice none 0 0] 25); have zM := Bx.new wM (.int .i64 0) (.slice none 0 0) (.slice none 0 0); have hP := below_of_drew hxP; have ne1 : w.heap.size ≠ wM.heap.size := (by have := hP.size; omega); have ne2 : wM.heap.size ≠ w.heap.size := (by have := hP.size; omega); replace rP : RwI wM w1.heap.size P p xs := rP; replace xM := hd xM; replace zM := hd zM; clear hxP)
            | (go_at_call 33; (with_reducible refine (cloneI_any A c xs _ sAZ hx5).mono ?_); rintro e wM ⟨P, p, rfl, rP, hxP⟩; have xM := HXZ.out.ext hxP; have m0 := xM.c0; have m1 := xM.c1; have m2 := xM.c2; have sBM := sBZ0.ext hxP; have zM2 := ZB.out.ext hxP; have hP2 := hZ0.trans ((below_of_drew hxP).mono (by simp)); replace rP : RwI wM (w1.heap.size + 1) P p xs := (by have := rP; simpa using this); replace xM := hd xM; replace zM2 := hd zM2; clear hxP)
            | (go_at_call 33; (with_reducible refine (cloneI_any B d ys _ sBM hy5).mono ?_); rintro e wH ⟨Q, q, rfl, rQ, hxQ⟩; have xH := xM.out.ext hxQ; have n0 := xH.c0; have n1 := xH.c1; have n2 := xH.c2; have zH := zM2.out.ext hxQ; have z0 := zH.c0; have z1 := zH.c1; have z2 := zH.c2; have y0 := zH.free 0; have y1 := zH.free 1; have y2 := zH.free 2; have FIN := hd (dup_set (t := t) (Nat.le_refl _) zH ((rP.ext hxQ).low (by omega)) (rQ.low (by have := hP2.size; omega)) (rows_apart rP rQ (Nat.le_refl _)) (ext_trans hP2 hxQ)); clear xH zH)
            | (go_at_call 33; (with_reducible refine (cloneI_any B d ys _ sBM hy5).mono ?_); rintro e wH ⟨Q, q, rfl, rQ, hxQ⟩; have xH := xM.out.ext hxQ; have n0 := xH.c0; have n1 := xH.c1; have n2 := xH.c2; have FIN := hd (dup_of (t := t) rP hP rQ hxQ); clear xH)
            | (go_at_call 33; (with_reducible refine (cloneI_any B d ys _ sBZ hy5).mono ?_); rintro e wH ⟨Q, q, rfl, rQ, hxQ⟩; have xH := (xM.out.alloc (.cells #[.int .i64 0, .slice none 0 0, .slice none 0 0] 25)).ext hxQ; have n0 := xH.c0; have n1 := xH.c1; have n2 := xH.c2; have zH := zM.out.ext hxQ; have z0 := zH.c0; have z1 := zH.c1; have z2 := zH.c2; have y0 := zH.free 0; have y1 := zH.free 1; have y2 := zH.free 2; have FIN := hd (dup_set (t := t) hP.size zH ((rP.ext ((Below.refl _ _).alloc (Nat.le_refl _) (.cells #[.int .i64 0, .slice none 0 0, .slice none 0 0] 25))).ext hxQ) (rQ.low (by have := hP.size; simp; omega)) (rows_apart rP rQ (by simp)) (ext_trans (ext_alloc hP (.cells #[.int .i64 0, .slice none 0 0, .slice none 0 0] 25)) hxQ)); clear xH zH)
            | fail)
        all_goals (go_wp2_with fail; go_meet; exact FIN.out)
      case rest =>
        obtain ⟨g, P, p, Q, q, rfl, hgW, bx, rP, rQ, hne, hb⟩ := hcut
        have c2 := bx.c2
        obtain ⟨gq, rfl, hgq, hgqs, e0, f0, hput⟩ := rQ.putI hoy
        obtain ⟨rQ2, hg2⟩ := hput (at0 ys o + v)
        obtain ⟨zs, hzs⟩ : ∃ zs, zs = chg ys o v := ⟨_, rfl⟩
        have hz2 : ys.set o (at0 ys o + v) = zs := by rw [hzs]; rfl
        rw [hz2] at rQ2
        rw [← hzs] at N3 N4
        have hzl : zs.length = ys.length := by rw [← hz2, List.length_set]
        have HZL := hd hzl
        have hy1' : 0 < ys.length := by omega
        have rP2 : RwI (wc.setCell ⟨gq, o, none⟩ (.int .i64 (at0 ys o + v))) w1.heap.size P p xs := Rw.apart rP hg2 (fun j hj e => by injection e with e; subst e; exact hne _ hj (rowOf_some hy1'))
        have hbQ := hb.grown hg2 hb.size (fun j e => by injection e with e; omega)
        have hnb : gq ≠ g := bx_ne_row bx rQ gq (rowOf_some hy1')
        have hnb2 : g ≠ gq := fun e => hnb e.symm
        have bx2 : Bx (wc.setCell ⟨gq, o, none⟩ (.int .i64 (at0 ys o + v))) g (.int .i64 t) (.slice P xs.length p) (.slice (some ⟨gq, 0, none⟩) ys.length q) := (hg2.block g bx.lt (fun e => hnb (by injection e with e; exact e.symm))).trans bx
        have d0 := bx2.c0
        have d1 := bx2.c1
        have d2 := bx2.c2
        have HNE := hd hne
        have HH := hd (And.intro rP2 (And.intro rQ2 (And.intro hbQ bx2)))
        have sP2 := rP2.sl
        have sQ2 := rQ2.sl
        have HQS := hd sQ2
        clear rP2 rQ2 hbQ hput rP rQ hne hz2 bx bx2 hb hg2 hzl hzs sQ2
        go_wp2_with fail
        have con := fun W hW hW' => vsh_any t P p xs (some ⟨gq, 0, none⟩) q zs W hW hW'
        rw [HZL.out] at con
        refine (con _ sP2 HQS.out).mono ?_
        clear con
        rintro e w4 ⟨rfl, hx⟩
        have bx4 := HH.out.2.2.2.ext hx
        have u0 := bx4.c0
        have u1 := bx4.c1
        have u2 := bx4.c2
        have hb4 := ext_trans HH.out.2.2.1 hx
        have bz := HR1.out.ext hb4
        have z0 := bz.c0
        have z1 := bz.c1
        have z2 := bz.c2
        have y0 := bz.free 0
        have y1 := bz.free 1
        have y2 := bz.free 2
        have HF := hd (And.intro (HH.out.1.ext hx) (And.intro (HH.out.2.1.ext hx) (HB1.out.trans (hb4.mono HB1.out.size))))
        clear bx4 hb4 bz hx
        cases h3 : VSh t xs zs with
        | true =>
          go_wp2
          refine bodyPost_ret (v := .tuple #[.agg #[.int .i64 t, .slice P xs.length p, .slice (some ⟨gq, 0, none⟩) ys.length q], .bool true]) (by simp [results, Try.results19, go_sem, z0, z1, z2]) rfl ?_
          rw [N4.out h3]
          refine ⟨P, p, some ⟨gq, 0, none⟩, q, by rw [HZL.out], res_apart HF.out.1 (by omega) (by omega), res_apart HF.out.2.1 (by omega) (by omega), fun j hj => by rw [HZL.out]; exact HNE.out j hj, res_below HF.out.2.2 (by omega)⟩
        | false =>
          go_wp2
          refine bodyPost_ret (v := .tuple #[.agg #[.int .i64 0, .slice none 0 0, .slice none 0 0], .bool false]) (by simp [results, Try.results19, go_sem, z0, z1, z2]) rfl ?_
          exact shO_none (N3.out h3) rfl (res_below HF.out.2.2 (by omega))
end Go.Proofs.Ytjgijfmnplcdkaa
