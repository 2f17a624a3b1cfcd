/- Contracts on shares: give of the reference. -/
import Derived.Test.YtjgijfmnplcdkaaWSh
import Derived.Deep.DeepCutAuto
namespace Go.Proofs.Ytjgijfmnplcdkaa
open Go.RowKit
theorem Bx.free {w : World} {g : Nat} {u v x : Value} (h : Bx w g u v x) (i : Nat) : w.frozen? ⟨g, i, none⟩ = false := by unfold Bx at h; simp [World.frozen?, h]
theorem below_of_drew {B : Nat} {a w : World} (h : Below B a.drew w) : Below B a w := ⟨h.os, h.tape, h.output, h.size, h.block⟩
/-- A number stored into new numbers. -/
theorem RwI.putI {w : World} {B : Nat} {A : Option Addr} {c : Nat} {xs : List Int} (h : RwI w B A c xs) {i : Nat} (hi : i < xs.length) :
    ∃ g, A = some ⟨g, 0, none⟩ ∧ B ≤ g ∧ g < w.heap.size ∧ w.cell? ⟨g, i, none⟩ = some (.int .i64 (at0 xs i)) ∧ w.frozen? ⟨g, i, none⟩ = false ∧
      ∀ v, RwI (w.setCell ⟨g, i, none⟩ (.int .i64 v)) B A c (xs.set i v) ∧ w.grownBy (w.setCell ⟨g, i, none⟩ (.int .i64 v)) (some g) := by
  obtain ⟨g, e, hb, hg, hp⟩ := Rw.put h (by omega)
  obtain ⟨_, hf, hs⟩ := hp i (by rw [ci_length]; exact hi)
  subst e
  have h1 := SlI.at1 h.sl hi
  have e0 : (⟨g, 0, none⟩ : Addr).add i = ⟨g, i, none⟩ := by unfold Addr.add; split <;> simp_all
  rw [e0, ← at0_of hi] at h1
  refine ⟨g, rfl, hb, hg, h1, hf, fun v => ⟨?_, (hs (.int .i64 v)).2⟩⟩
  have := (hs (.int .i64 v)).1
  rw [ci_set] at this
  unfold RwI
  rw [List.length_set]
  exact this
/-- A share's block and new numbers never meet. -/
theorem bx_ne_row {w : World} {g B n c : Nat} {u v x : Value} {A : Option Addr} {us : List Value} (h : Bx w g u v x) (hr : Rw w B 3 1 A n c us) : ∀ q, rowOf A n = some q → q ≠ g := fun q hq e => by
  subst e
  unfold rowOf at hq
  split at hq
  · cases hq
  · obtain ⟨g', cur, e1, _, e3⟩ := hr.2 (by omega)
    subst e1
    injection hq with hq
    have hq : g' = q := hq
    subst hq
    unfold Bx at h
    rw [e3] at h
    injection h with h
    injection h with _ h
    exact absurd h (by decide)
theorem set3_grown0 (w : World) (g : Nat) (a b c : Value) : w.grownBy (((w.setCell ⟨g, 0, none⟩ a).setCell ⟨g, 1, none⟩ b).setCell ⟨g, 2, none⟩ c) (some g) :=
  ⟨rfl, rfl, rfl, by rw [setCell_size, setCell_size, setCell_size]; exact Nat.le_refl _, fun k _ hne => by
    have e : ∀ (W : World) (o : Nat) (u : Value), (W.setCell ⟨g, o, none⟩ u).heap[k]? = W.heap[k]? := fun W o u => Below.heap_setCell W ⟨g, o, none⟩ u k (fun e => hne (by rw [e]))
    rw [e, e, e]⟩
theorem set3_grown (w : World) (g : Nat) (a b c : Value) : w.grownBy (((w.setCell ⟨g, 0, none⟩ a).setCell ⟨g, 1, none⟩ b).setCell ⟨g, 2, none⟩ c).drew (some g) :=
  have h := set3_grown0 w g a b c
  ⟨h.os, h.tape, h.output, h.size, h.block⟩
/-- A copy of a share, in new memory. -/
def Dup (W0 : World) (t : Int) (xs ys : List Int) (s : Value) (wx : World) : Prop :=
  ∃ (g : Nat) (P : Option Addr) (p : Nat) (Q : Option Addr) (q : Nat), s = .pointer (some ⟨g, 0, none⟩) ∧ W0.heap.size ≤ g ∧ Bx wx g (.int .i64 t) (.slice P xs.length p) (.slice Q ys.length q) ∧ RwI wx W0.heap.size P p xs ∧ RwI wx W0.heap.size Q q ys ∧ (∀ j, rowOf P xs.length = some j → rowOf Q ys.length ≠ some j) ∧ Below W0.heap.size W0 wx
theorem dup_of {W0 wM wH : World} {t : Int} {xs ys : List Int} {P Q : Option Addr} {p q : Nat} (rP : RwI wM W0.heap.size P p xs) (hP : Below W0.heap.size W0 wM) (rQ : RwI wH wM.heap.size Q q ys) (hQ : Below wM.heap.size wM wH) :
    Dup W0 t xs ys (.pointer (some ⟨wH.heap.size, 0, none⟩)) (wH.alloc (.cells #[.int .i64 t, .slice P xs.length p, .slice Q ys.length q] 25)) := by
  have hb := ext_trans hP hQ
  have ha : Below wH.heap.size wH (wH.alloc (.cells #[.int .i64 t, .slice P xs.length p, .slice Q ys.length q] 25)) := ext_alloc (Below.refl _ _) _
  refine ⟨wH.heap.size, P, p, Q, q, rfl, hb.size, Bx.new _ _ _ _, (rP.ext hQ).ext ha, (rQ.ext ha).low hP.size, fun j hj hj' => ?_, ext_trans hb ha⟩
  have a := (Rw.row rP j hj).2
  have b := (Rw.row rQ j hj').1
  omega
theorem dup_set {W0 wX : World} {g : Nat} {u0 u1 u2 : Value} {t : Int} {xs ys : List Int} {P Q : Option Addr} {p q : Nat} (hg : W0.heap.size ≤ g) (bx : Bx wX g u0 u1 u2) (rP : RwI wX W0.heap.size P p xs) (rQ : RwI wX W0.heap.size Q q ys) (hne : ∀ j, rowOf P xs.length = some j → rowOf Q ys.length ≠ some j) (hb : Below W0.heap.size W0 wX) :
    Dup W0 t xs ys (.pointer (some ⟨g, 0, none⟩)) (((wX.setCell ⟨g, 0, none⟩ (.int .i64 t)).setCell ⟨g, 1, none⟩ (.slice P xs.length p)).setCell ⟨g, 2, none⟩ (.slice Q ys.length q)) := by
  have hs := set3_grown0 wX g (.int .i64 t) (.slice P xs.length p) (.slice Q ys.length q)
  refine ⟨g, P, p, Q, q, rfl, hg, ?_, Rw.apart rP hs (fun j hj e => by injection e with e; exact bx_ne_row bx rP j hj e.symm), Rw.apart rQ hs (fun j hj e => by injection e with e; exact bx_ne_row bx rQ j hj e.symm), hne, hb.grown hs hb.size (fun j e => by injection e with e; omega)⟩
  unfold Bx at bx ⊢
  simp [World.setCell, Array.getElem?_modify, bx]
theorem rows_apart {wM wH : World} {B C : Nat} {xs ys : List Int} {P Q : Option Addr} {p q : Nat} (rP : RwI wM B P p xs) (rQ : RwI wH C Q q ys) (hC : wM.heap.size ≤ C) : ∀ j, rowOf P xs.length = some j → rowOf Q ys.length ≠ some j := fun j hj hj' => by
  have a := (Rw.row rP j hj).2
  have b := (Rw.row rQ j hj').1
  omega
/-- A share handed back in new memory. -/
def NewSh (t : Int) (xs zs : List Int) (w : World) (e : Ending) (w' : World) : Prop :=
  ∃ (P : Option Addr) (p : Nat) (Q : Option Addr) (q : Nat), e = .returned (.agg #[.int .i64 t, .slice P xs.length p, .slice Q zs.length q]) ∧ RwI w' w.heap.size P p xs ∧ RwI w' w.heap.size Q q zs ∧ (∀ j, rowOf P xs.length = some j → rowOf Q zs.length ≠ some j) ∧ Below w.heap.size w w'
set_option maxRecDepth 100000 in
set_option maxHeartbeats 1000000 in
theorem give_any (t : Int) (A : Option Addr) (c : Nat) (xs : List Int) (B : Option Addr) (d : Nat) (ys zs : List Int) (o : Nat) (v : Int) (w : World) (h : SlI w A c xs) (h' : SlI w B d ys) (hv : VSh t xs ys = true) (ho : o < 5) (hv1 : -1 ≤ v) (hv2 : v ≤ 1) (hz : chg ys o v = zs) :
    Calls Try.prog 25 #[.agg #[.int .i64 t, .slice A xs.length c, .slice B ys.length d], .int .i64 (o : Int), .int .i64 v] w (NewSh t xs zs w) := by
  have V := valid_iff.1 hv
  have hx5 : xs.length ≤ 1048576 := by have := V.lx; omega
  have hy5 : ys.length ≤ 1048576 := by have := V.ly; omega
  have hoy : o < ys.length := by have := V.ly; omega
  have hy0 := V.my o ho
  have hy1 := V.mx o ho
  have HZ := hd hz
  obtain ⟨W0, hW0⟩ : ∃ W0, W0 = (w.alloc (.cells #[.int .i64 t, .slice A xs.length c, .slice B ys.length d] 25)).alloc (.cells #[.int .i64 0, .slice none 0 0, .slice none 0 0] 25) := ⟨_, rfl⟩
  have hb0 : Below w.heap.size w W0 := by rw [hW0]; exact ext_alloc (ext_alloc (Below.refl _ _) _) _
  have hx0 : Bx W0 w.heap.size (.int .i64 t) (.slice A xs.length c) (.slice B ys.length d) := by rw [hW0]; exact (Bx.new w _ _ _).alloc _
  have hr0 : Bx W0 (w.heap.size + 1) (.int .i64 0) (.slice none 0 0) (.slice none 0 0) := by
    rw [hW0]
    have := Bx.new (w.alloc (.cells #[.int .i64 t, .slice A xs.length c, .slice B ys.length d] 25)) (.int .i64 0) (.slice none 0 0) (.slice none 0 0)
    rwa [World.size_alloc] at this
  have sA : SlI W0.drew A c xs := h.ext (ext_drew hb0)
  have sB : SlI W0.drew B d ys := h'.ext (ext_drew hb0)
  have xD : Bx W0.drew w.heap.size (.int .i64 t) (.slice A xs.length c) (.slice B ys.length d) := hx0
  have hW2 : w.heap.size + 2 ≤ W0.heap.size := by rw [hW0]; simp
  have ne3 : W0.heap.size ≠ w.heap.size := by omega
  have ne4 : w.heap.size ≠ W0.heap.size := by omega
  have HX := hd xD
  have hZ0 : Below W0.heap.size W0 (W0.alloc (.cells #[.int .i64 0, .slice none 0 0, .slice none 0 0] 25)) := ext_alloc (Below.refl _ _) _
  have sAZ : SlI (W0.alloc (.cells #[.int .i64 0, .slice none 0 0, .slice none 0 0] 25)).drew A c xs := Sl.alloc (h.ext hb0) _
  have sBZ0 : SlI (W0.alloc (.cells #[.int .i64 0, .slice none 0 0, .slice none 0 0] 25)).drew B d ys := Sl.alloc (h'.ext hb0) _
  have HXZ := hd (show Bx (W0.alloc (.cells #[.int .i64 0, .slice none 0 0, .slice none 0 0] 25)).drew w.heap.size (.int .i64 t) (.slice A xs.length c) (.slice B ys.length d) from hx0.alloc _)
  have ZB := hd (show Bx (W0.alloc (.cells #[.int .i64 0, .slice none 0 0, .slice none 0 0] 25)).drew W0.heap.size (.int .i64 0) (.slice none 0 0) (.slice none 0 0) from Bx.new W0 _ _ _)
  have HR0 := hd hr0
  have HB0 := hd hb0
  clear hr0 hb0 hz V hv h h' xD
  have b0 := hx0.c0
  have b1 := hx0.c1
  have b2 := hx0.c2
  clear hx0
  go_enter Try.func25, Try.ntmps25
  go_wp2_with fail
  rw [← hW0]
  clear hW0
  go_upto_region 1 with fail
  go_cut [7] (fun s7 wx => Dup W0 t xs ys s7 wx)
  case first =>
    go_region_held3 (fun W => W.cell? ⟨w.heap.size, 0, none⟩ = some (.int .i64 t) ∧ W.cell? ⟨w.heap.size, 1, none⟩ = some (.slice A xs.length c) ∧ W.cell? ⟨w.heap.size, 2, none⟩ = some (.slice B ys.length d)) (go_keep)
      (first
        | (go_at_call 23; (with_reducible refine (copyInts_any A c xs _ sA hx5).mono ?_); rintro e wM ⟨P, p, rfl, rP, hxP⟩; have xM := HX.out.ext hxP; have m0 := xM.c0; have m1 := xM.c1; have m2 := xM.c2; have sBM := sB.ext hxP; have sBZ : SlI (wM.alloc (.cells #[.int .i64 0, .slice none 0 0, .slice none 0 0] 25)) B d ys := Sl.alloc sBM (.cells #[.int .i64 0, .slice none 0 0, .slice none 0 0] 25); have zM := Bx.new wM (.int .i64 0) (.slice none 0 0) (.slice none 0 0); have hP := below_of_drew hxP; have ne1 : w.heap.size ≠ wM.heap.size := (by have := hP.size; omega); have ne2 : wM.heap.size ≠ w.heap.size := (by have := hP.size; omega); replace rP : RwI wM W0.heap.size P p xs := rP; replace xM := hd xM; replace zM := hd zM; clear hxP)
        | (go_at_call 23; (with_reducible refine (copyInts_any A c xs _ sAZ hx5).mono ?_); rintro e wM ⟨P, p, rfl, rP, hxP⟩; have xM := HXZ.out.ext hxP; have m0 := xM.c0; have m1 := xM.c1; have m2 := xM.c2; have sBM := sBZ0.ext hxP; have zM2 := ZB.out.ext hxP; have hP2 := hZ0.trans ((below_of_drew hxP).mono (by simp)); replace rP : RwI wM (W0.heap.size + 1) P p xs := (by have := rP; simpa using this); replace xM := hd xM; replace zM2 := hd zM2; clear hxP)
        | (go_at_call 23; (with_reducible refine (copyInts_any B d ys _ sBM hy5).mono ?_); rintro e wH ⟨Q, q, rfl, rQ, hxQ⟩; have xH := xM.out.ext hxQ; have n0 := xH.c0; have n1 := xH.c1; have n2 := xH.c2; have zH := zM2.out.ext hxQ; have z0 := zH.c0; have z1 := zH.c1; have z2 := zH.c2; have y0 := zH.free 0; have y1 := zH.free 1; have y2 := zH.free 2; have FIN := hd (dup_set (t := t) (Nat.le_refl _) zH ((rP.ext hxQ).low (by omega)) (rQ.low (by have := hP2.size; omega)) (rows_apart rP rQ (Nat.le_refl _)) (ext_trans hP2 hxQ)); clear xH zH)
        | (go_at_call 23; (with_reducible refine (copyInts_any B d ys _ sBM hy5).mono ?_); rintro e wH ⟨Q, q, rfl, rQ, hxQ⟩; have xH := xM.out.ext hxQ; have n0 := xH.c0; have n1 := xH.c1; have n2 := xH.c2; have FIN := hd (dup_of (t := t) rP hP rQ hxQ); clear xH)
        | (go_at_call 23; (with_reducible refine (copyInts_any B d ys _ sBZ hy5).mono ?_); rintro e wH ⟨Q, q, rfl, rQ, hxQ⟩; have xH := (xM.out.alloc (.cells #[.int .i64 0, .slice none 0 0, .slice none 0 0] 25)).ext hxQ; have n0 := xH.c0; have n1 := xH.c1; have n2 := xH.c2; have zH := zM.out.ext hxQ; have z0 := zH.c0; have z1 := zH.c1; have z2 := zH.c2; have y0 := zH.free 0; have y1 := zH.free 1; have y2 := zH.free 2; have FIN := hd (dup_set (t := t) hP.size zH ((rP.ext ((Below.refl _ _).alloc (Nat.le_refl _) (.cells #[.int .i64 0, .slice none 0 0, .slice none 0 0] 25))).ext hxQ) (rQ.low (by have := hP.size; simp; omega)) (rows_apart rP rQ (by simp)) (ext_trans (ext_alloc hP (.cells #[.int .i64 0, .slice none 0 0, .slice none 0 0] 25)) hxQ)); clear xH zH)
        | fail)
    all_goals (go_wp2_with fail; go_meet; exact FIN.out)
  case rest =>
    obtain ⟨g, P, p, Q, q, rfl, hgW, bx, rP, rQ, hne, hb⟩ := hcut
    have c0 := bx.c0
    have c1 := bx.c1
    have c2 := bx.c2
    obtain ⟨gq, rfl, hgq, hgqs, e0, f0, hput⟩ := rQ.putI hoy
    obtain ⟨rQ2, hg2⟩ := hput (at0 ys o + v)
    have hz2 : ys.set o (at0 ys o + v) = zs := HZ.out
    rw [hz2] at rQ2
    have hzl : zs.length = ys.length := by rw [← hz2, List.length_set]
    have HZL := hd hzl
    have hy1' : 0 < ys.length := by omega
    have rP2 : RwI (wc.setCell ⟨gq, o, none⟩ (.int .i64 (at0 ys o + v))) W0.heap.size P p xs := Rw.apart rP hg2 (fun j hj e => by injection e with e; subst e; exact hne _ hj (rowOf_some hy1'))
    have hbQ := hb.grown hg2 hb.size (fun j e => by injection e with e; omega)
    have hnb : gq ≠ g := bx_ne_row bx rQ gq (rowOf_some hy1')
    have bx2 : Bx (wc.setCell ⟨gq, o, none⟩ (.int .i64 (at0 ys o + v))) g (.int .i64 t) (.slice P xs.length p) (.slice (some ⟨gq, 0, none⟩) ys.length q) := (hg2.block g bx.lt (fun e => hnb (by injection e with e; exact e.symm))).trans bx
    have bz : Bx (wc.setCell ⟨gq, o, none⟩ (.int .i64 (at0 ys o + v))) (w.heap.size + 1) (.int .i64 0) (.slice none 0 0) (.slice none 0 0) := HR0.out.ext hbQ
    have d0 := bx2.c0
    have d1 := bx2.c1
    have d2 := bx2.c2
    have z0 := bz.c0
    have z1 := bz.c1
    have z2 := bz.c2
    have y0 := bz.free 0
    have y1 := bz.free 1
    have y2 := bz.free 2
    have hne' := hne
    have HNE := hd hne'
    have HH := hd (And.intro rP2 (And.intro rQ2 hbQ))
    clear rP2 rQ2 hbQ hput rP rQ hne hne' hz2 bx bx2 bz hb hg2 hzl
    go_wp2_with fail
    go_region
    go_wp2
    refine bodyPost_ret (v := .agg #[.int .i64 t, .slice P xs.length p, .slice (some ⟨gq, 0, none⟩) ys.length q]) (by simp [results, Try.results25, go_sem, z0, z1, z2]) rfl ?_
    obtain ⟨rP2, rQ2, hbQ⟩ := HH.out
    have hs3 := set3_grown (wc.setCell ⟨gq, o, none⟩ (.int .i64 (at0 ys o + v))) (w.heap.size + 1) (.int .i64 t) (.slice P xs.length p) (.slice (some ⟨gq, 0, none⟩) ys.length q)
    have hfar : ∀ {A' : Option Addr} {c' : Nat} {us : List Int}, RwI (wc.setCell ⟨gq, o, none⟩ (.int .i64 (at0 ys o + v))) W0.heap.size A' c' us → ∀ j, rowOf A' us.length = some j → some (w.heap.size + 1) ≠ some j := fun hr j hj e => by
      have := (Rw.row hr j hj).1
      injection e with e
      omega
    refine ⟨P, p, some ⟨gq, 0, none⟩, q, by rw [HZL.out], (Rw.apart rP2 hs3 (hfar rP2)).low HB0.out.size, (Rw.apart rQ2 hs3 (hfar rQ2)).low HB0.out.size, fun j hj => by rw [HZL.out]; exact HNE.out j hj, ?_⟩
    exact (HB0.out.trans (hbQ.mono HB0.out.size)).grown hs3 (by have := (HB0.out.trans (hbQ.mono HB0.out.size)).size; omega) (fun j e => by injection e with e; omega)
end Go.Proofs.Ytjgijfmnplcdkaa
