/- What the draws of the arguments of shares' functions give. -/
import Derived.Test.YtjgijfmnplcdkaaDrSh
namespace Go.Proofs.Ytjgijfmnplcdkaa
open Go.RowKit
/-- A share held in a block, and its lists. -/
structure Hs (W : World) (g : Nat) (t : Int) (P : Option Addr) (p : Nat) (xs : List Int) (Q : Option Addr) (q : Nat) (ys : List Int) : Prop where
  bx : Bx W g (.int .i64 t) (.slice P xs.length p) (.slice Q ys.length q)
  sx : SlI W P p xs
  sy : SlI W Q q ys
section
variable {W W' : World} {g : Nat} {t : Int} {P : Option Addr} {p : Nat} {xs : List Int} {Q : Option Addr} {q : Nat} {ys : List Int}
theorem Hs.ext (h : Hs W g t P p xs Q q ys) (hx : Below W.heap.size W W') : Hs W' g t P p xs Q q ys := ⟨h.bx.ext hx, h.sx.ext hx, h.sy.ext hx⟩
theorem hs_new (W : World) (h : SlI W P p xs) (h' : SlI W Q q ys) : Hs (W.alloc (.cells #[.int .i64 t, .slice P xs.length p, .slice Q ys.length q] 25)) W.heap.size t P p xs Q q ys :=
  ⟨Bx.new W _ _ _, Sl.alloc h _, Sl.alloc h' _⟩
end
/-- A share drawn from a code. -/
def DrS (w : World) (e : Ending) (w' : World) : Prop :=
  ∃ (t : Int) (P : Option Addr) (pc : Nat) (xs : List Int) (Q : Option Addr) (qc : Nat) (ys : List Int), e = .returned (.agg #[.int .i64 t, .slice P xs.length pc, .slice Q ys.length qc]) ∧ -1 ≤ t ∧ t ≤ 21 ∧ SlI w' P pc xs ∧ SlI w' Q qc ys ∧ xs.length ≤ 100 ∧ ys.length ≤ 100 ∧ Below w.heap.size w w' ∧ (∀ j, rowOf P xs.length = some j → w.heap.size < j) ∧ (∀ j, rowOf Q ys.length = some j → w.heap.size < j)
/-- A share and an owner drawn. -/
def DrSO (w : World) (e : Ending) (w' : World) : Prop :=
  ∃ (t : Int) (P : Option Addr) (pc : Nat) (xs : List Int) (Q : Option Addr) (qc : Nat) (ys : List Int) (o : Int), e = .returned (.tuple #[.agg #[.int .i64 t, .slice P xs.length pc, .slice Q ys.length qc], .int .i64 o]) ∧ -1 ≤ t ∧ t ≤ 21 ∧ SlI w' P pc xs ∧ SlI w' Q qc ys ∧ xs.length ≤ 100 ∧ ys.length ≤ 100 ∧ -1 ≤ o ∧ o ≤ 5 ∧ Below w.heap.size w w' ∧ (∀ j, rowOf P xs.length = some j → w.heap.size < j) ∧ (∀ j, rowOf Q ys.length = some j → w.heap.size < j)
/-- A share and those who ask drawn. -/
def DrSA (w : World) (e : Ending) (w' : World) : Prop :=
  ∃ (t : Int) (P : Option Addr) (pc : Nat) (xs : List Int) (Q : Option Addr) (qc : Nat) (ys : List Int) (E : Option Addr) (f : Nat) (asks : List Int), e = .returned (.tuple #[.agg #[.int .i64 t, .slice P xs.length pc, .slice Q ys.length qc], .slice E asks.length f]) ∧ -1 ≤ t ∧ t ≤ 21 ∧ SlI w' P pc xs ∧ SlI w' Q qc ys ∧ xs.length ≤ 100 ∧ ys.length ≤ 100 ∧ SlI w' E f asks ∧ asks.length ≤ 14 ∧ Below w.heap.size w w' ∧ (∀ j, rowOf P xs.length = some j → w.heap.size < j) ∧ (∀ j, rowOf Q ys.length = some j → w.heap.size < j) ∧ (∀ j, rowOf E asks.length = some j → w.heap.size < j)
theorem slB_ext {w w' : World} {A : Option Addr} {n c : Nat} (h : SlB w A n c) (hb : Below w.heap.size w w') : SlB w' A n c := by
  refine ⟨h.1, h.2.1, fun h0 => ?_⟩
  obtain ⟨ad, e, hl, hc⟩ := h.2.2 h0
  refine ⟨ad, e, Nat.lt_of_lt_of_le hl hb.size, fun j hj => ?_⟩
  obtain ⟨b, b0, b1, hc'⟩ := hc j hj
  exact ⟨b, b0, b1, (hb.cell (by rw [blk_add]; exact hl)).trans hc'⟩
/-- Changes of a new reader's block change nothing old. -/
theorem below_rd {w w1 w2 : World} {rb : Nat} (h : Below w.heap.size w w1) (hg : w1.grownBy w2 (some rb)) (hr : w.heap.size ≤ rb) : Below w.heap.size w w2 := h.grown hg h.size (fun k e => by injection e with e; omega)
/-- The result's own block. -/
theorem set3_old {w X : World} {a b c : Value} (h : Below w.heap.size w X) : Below w.heap.size w (((X.setCell ⟨w.heap.size, 0, none⟩ a).setCell ⟨w.heap.size, 1, none⟩ b).setCell ⟨w.heap.size, 2, none⟩ c) := h.grown (set3_grown0 X _ a b c) h.size (fun k e => by injection e with e; omega)
theorem set3_keep {X : World} {r : Nat} {a b c : Value} {A : Option Addr} {cp : Nat} {us : List Int} (h : SlI X A cp us) (hA : ∀ j, rowOf A us.length = some j → j ≠ r) : SlI (((X.setCell ⟨r, 0, none⟩ a).setCell ⟨r, 1, none⟩ b).setCell ⟨r, 2, none⟩ c) A cp us :=
  Sl.apart h (set3_grown0 X r a b c) (fun j hj e => by injection e with e; exact hA j hj e.symm)
set_option maxHeartbeats 1000000 in
theorem drawNextOwner_any (A : Option Addr) (n c : Nat) (w : World) (h : SlB w A n c) : Calls Try.prog 14 #[.slice A n c] w (DrSA w) := by
  obtain ⟨W0, hW0⟩ : ∃ W0, W0 = w.alloc (.cells #[.int .i64 0, .slice none 0 0, .slice none 0 0] 25) := ⟨_, rfl⟩
  have hb0 : Below w.heap.size w W0 := by rw [hW0]; exact ext_alloc (Below.refl _ _) _
  have bz0 : Bx W0 w.heap.size (.int .i64 0) (.slice none 0 0) (.slice none 0 0) := by rw [hW0]; exact Bx.new w _ _ _
  have hS := slB_ext h hb0
  have hlt := bz0.lt
  go_enter Try.func14, Try.ntmps14
  go_wp2_with fail
  rw [← hW0]
  clear hW0
  refine (newReader_any A n c W0 hS).mono ?_
  rintro e w1 ⟨rfl, hrd, hx, -⟩
  have hb1 := hb0.trans (hx.mono hb0.size)
  have bz1 := bz0.ext hx
  have hz1 := hrd.lt
  clear hx hb0 bz0 h hS
  go_wp2_with fail
  refine (anyShare_any W0.heap.size 0 w1 hrd (by omega)).mono ?_
  rintro e w2 ⟨t, P, pc, xs, Q, qc, ys, q, rfl, h0, h1, sP, sQ, l1, l2, hq2, hrd2, hg, rP, rQ⟩
  have hb2 := below_rd hb1 hg (by omega)
  have bz := bx_far bz1 hg (by omega)
  have hz2 := hg.size
  clear hg bz1 hb1 hrd
  go_upto_region 3 with fail
  obtain ⟨W5, hW5⟩ : ∃ W, W = w2.alloc (.cells #[.int .i64 t, .slice P xs.length pc, .slice Q ys.length qc] 25) := ⟨_, rfl⟩
  rw [← hW5]
  have hx : Below w2.heap.size w2 W5 := by rw [hW5]; exact ext_alloc (Below.refl _ _) _
  have bx : Bx W5 w2.heap.size (.int .i64 t) (.slice P xs.length pc) (.slice Q ys.length qc) := by rw [hW5]; exact Bx.new w2 _ _ _
  have sP5 := sP.ext hx; have sQ5 := sQ.ext hx; have bz5 := bz.ext hx; have hrd5 := hrd2.ext hx; have hb5 : Below w.heap.size w W5 := hb2.trans (hx.mono hb2.size)
  have hz5 := hx.size
  clear hW5 hx sP sQ bz hrd2 hb2
  have ne1 : w2.heap.size ≠ w.heap.size := by omega
  have ne2 : w.heap.size ≠ w2.heap.size := by omega
  have c0 := bx.c0; have c1 := bx.c1; have c2 := bx.c2
  have ASK := hd (someAsks_any W0.heap.size q W5.drew (hrd5.ext (ext_drew (Below.refl _ _))) (by omega))
  have H5 := hd (And.intro bx (And.intro bz5 (And.intro sP5 (And.intro sQ5 hb5))))
  clear bz5 bx sP5 sQ5 hb5 hrd5
  go_cut [3] (fun s3 wx => ∃ (E : Option Addr) (f : Nat) (asks : List Int), s3 = .slice E asks.length f ∧ SlI wx E f asks ∧ asks.length ≤ 14 ∧ (∀ j, rowOf E asks.length = some j → w.heap.size < j) ∧ Bx wx w.heap.size (.int .i64 t) (.slice P xs.length pc) (.slice Q ys.length qc) ∧ SlI wx P pc xs ∧ SlI wx Q qc ys ∧ Below w.heap.size w wx)
  case first =>
    go_region_held3 (fun W => W.cell? ⟨w2.heap.size, 0, none⟩ = some (.int .i64 t) ∧ W.cell? ⟨w2.heap.size, 1, none⟩ = some (.slice P xs.length pc) ∧ W.cell? ⟨w2.heap.size, 2, none⟩ = some (.slice Q ys.length qc)) (go_keep)
      (first | (go_at_call 31; (with_reducible refine ASK.out.mono ?_); rintro e w6 ⟨E, f, asks, q6, rfl, hs6, hl6, -, -, hg6', hE⟩; have hg6 : W5.grownBy w6 (some W0.heap.size) := ⟨hg6'.os, hg6'.tape, hg6'.output, hg6'.size, hg6'.block⟩; have bx6 := bx_far H5.out.1 hg6 (by omega); have d0 := bx6.c0; have d1 := bx6.c1; have d2 := bx6.c2; have bz := bx_far H5.out.2.1 hg6 (by omega); have z0 := bz.c0; have z1 := bz.c1; have z2 := bz.c2; have y0 := bz.free 0; have y1 := bz.free 1; have y2 := bz.free 2; have HG := hd hg6; have HE := hd (row_of_addr (n := asks.length) hE); have HS := hd hs6; have HL := hd hl6; have HZ := hd bz; clear bx6 bz hg6 hg6' hE hs6 hl6) | fail)
    all_goals (go_wp2_with fail; go_meet)
    all_goals (
      have hE : ∀ j, rowOf E asks.length = some j → w.heap.size < j := fun j hj => by have := HE.out j hj; have : W5.drew.heap.size = W5.heap.size := rfl; omega
      have hP : ∀ {A' : Option Addr} {c' : Nat} {us : List Int}, SlI W5 A' c' us → (∀ j, rowOf A' us.length = some j → w1.heap.size < j) → SlI w6 A' c' us := fun hs hr => Sl.apart hs HG.out (fun j hj e => by injection e with e; have := hr j hj; omega)
      exact ⟨E, f, asks, rfl, set3_keep HS.out (fun j hj => by have := hE j hj; omega), HL.out, hE, HZ.out.put3, set3_keep (hP H5.out.2.2.1 rP) (fun j hj => by have := rP j hj; omega), set3_keep (hP H5.out.2.2.2.1 rQ) (fun j hj => by have := rQ j hj; omega), set3_old (below_rd H5.out.2.2.2.2 HG.out (by omega))⟩)
  case rest =>
    obtain ⟨E, f, asks, rfl, sE, lE, rE, bz, sP, sQ, hb⟩ := hcut
    clear ASK H5 c0 c1 c2
    have z0 := bz.c0; have z1 := bz.c1; have z2 := bz.c2
    go_wp2
    refine bodyPost_ret (v := .tuple #[.agg #[.int .i64 t, .slice P xs.length pc, .slice Q ys.length qc], .slice E asks.length f]) (by simp [results, Try.results14, go_sem, z0, z1, z2]) rfl ?_
    exact ⟨t, P, pc, xs, Q, qc, ys, E, f, asks, rfl, h0, h1, sP, sQ, l1, l2, sE, lE, hb, fun j hj => by have := rP j hj; omega, fun j hj => by have := rQ j hj; omega, rE⟩
set_option maxHeartbeats 1000000 in
theorem drawGiveAll_any (A : Option Addr) (n c : Nat) (w : World) (h : SlB w A n c) : Calls Try.prog 6 #[.slice A n c] w (DrSA w) := by
  obtain ⟨W0, hW0⟩ : ∃ W0, W0 = w.alloc (.cells #[.int .i64 0, .slice none 0 0, .slice none 0 0] 25) := ⟨_, rfl⟩
  have hb0 : Below w.heap.size w W0 := by rw [hW0]; exact ext_alloc (Below.refl _ _) _
  have bz0 : Bx W0 w.heap.size (.int .i64 0) (.slice none 0 0) (.slice none 0 0) := by rw [hW0]; exact Bx.new w _ _ _
  have hS := slB_ext h hb0
  have hlt := bz0.lt
  go_enter Try.func6, Try.ntmps6
  go_wp2_with fail
  rw [← hW0]
  clear hW0
  refine (drawNextOwner_any A n c W0 hS).mono ?_
  rintro e w1 ⟨t, P, pc, xs, Q, qc, ys, E, f, asks, rfl, h0, h1, sP, sQ, l1, l2, sE, lE, hx, rP, rQ, rE⟩
  have hb1 := hb0.trans (hx.mono hb0.size)
  have bz := bz0.ext hx
  have z0 := bz.c0; have z1 := bz.c1; have z2 := bz.c2; have y0 := bz.free 0; have y1 := bz.free 1; have y2 := bz.free 2
  clear hx hb0 bz0 h hS
  go_wp2
  refine bodyPost_ret (v := .tuple #[.agg #[.int .i64 t, .slice P xs.length pc, .slice Q ys.length qc], .slice E asks.length f]) (by simp [results, Try.results6, go_sem, z0, z1, z2]) rfl ?_
  exact ⟨t, P, pc, xs, Q, qc, ys, E, f, asks, rfl, h0, h1, set3_keep sP (fun j hj => by have := rP j hj; omega), set3_keep sQ (fun j hj => by have := rQ j hj; omega), l1, l2, set3_keep sE (fun j hj => by have := rE j hj; omega), lE, set3_old hb1, fun j hj => by have := rP j hj; omega, fun j hj => by have := rQ j hj; omega, fun j hj => by have := rE j hj; omega⟩
end Go.Proofs.Ytjgijfmnplcdkaa
