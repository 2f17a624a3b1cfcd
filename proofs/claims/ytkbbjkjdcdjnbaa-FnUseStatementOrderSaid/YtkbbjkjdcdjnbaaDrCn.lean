/- What the draws of the arguments of caches' functions give. -/
import Derived.Test.YtkbbjkjdcdjnbaaDrCa
namespace Go.Proofs.Ytkbbjkjdcdjnbaa
open Go.RowKit
/-- A cache held in a block, and its list. -/
structure Hc (W : World) (g : Nat) (r : Int) (P : Option Addr) (p : Nat) (xs : List Int) : Prop where
  bx : Cx 25 W g (.int .i64 r) (.slice P xs.length p)
  sx : SlI W P p xs
theorem Hc.ext {W W' : World} {g : Nat} {r : Int} {P : Option Addr} {p : Nat} {xs : List Int} (h : Hc W g r P p xs) (hx : Below W.heap.size W W') : Hc W' g r P p xs := ⟨h.bx.ext hx, h.sx.ext hx⟩
theorem hc_new {r : Int} {P : Option Addr} {p : Nat} {xs : List Int} (W : World) (h : SlI W P p xs) : Hc (W.alloc (.cells #[.int .i64 r, .slice P xs.length p] 25)) W.heap.size r P p xs := ⟨Cx.new W _ _, Sl.alloc h _⟩
/-- A cache drawn from a code. -/
def DrC (w : World) (e : Ending) (w' : World) : Prop :=
  ∃ (r : Int) (P : Option Addr) (pc : Nat) (xs : List Int), e = .returned (.agg #[.int .i64 r, .slice P xs.length pc]) ∧ -1 ≤ r ∧ r ≤ 7 ∧ SlI w' P pc xs ∧ xs.length ≤ 100 ∧ Below w.heap.size w w' ∧ (∀ j, rowOf P xs.length = some j → w.heap.size < j)
/-- A cache and a name drawn. -/
def DrCO (w : World) (e : Ending) (w' : World) : Prop :=
  ∃ (r : Int) (P : Option Addr) (pc : Nat) (xs : List Int) (v : Int), e = .returned (.tuple #[.agg #[.int .i64 r, .slice P xs.length pc], .int .i64 v]) ∧ -1 ≤ r ∧ r ≤ 7 ∧ SlI w' P pc xs ∧ xs.length ≤ 100 ∧ Below w.heap.size w w' ∧ (∀ j, rowOf P xs.length = some j → w.heap.size < j)
/-- A cache and names drawn. -/
def DrCN (w : World) (e : Ending) (w' : World) : Prop :=
  ∃ (r : Int) (P : Option Addr) (pc : Nat) (xs : List Int) (E : Option Addr) (f : Nat) (ns : List Int), e = .returned (.tuple #[.agg #[.int .i64 r, .slice P xs.length pc], .slice E ns.length f]) ∧ -1 ≤ r ∧ r ≤ 7 ∧ SlI w' P pc xs ∧ xs.length ≤ 100 ∧ SlI w' E f ns ∧ ns.length ≤ 100 ∧ Below w.heap.size w w'
theorem slB_extc {w w' : World} {A : Option Addr} {n c : Nat} (h : SlB w A n c) (hb : Below w.heap.size w w') : SlB w' A n c := by
  refine ⟨h.1, h.2.1, fun h0 => ?_⟩
  obtain ⟨ad, e, hl, hc⟩ := h.2.2 h0
  refine ⟨ad, e, Nat.lt_of_lt_of_le hl hb.size, fun j hj => ?_⟩
  obtain ⟨b, b0, b1, hc'⟩ := hc j hj
  exact ⟨b, b0, b1, (hb.cell (by rw [blk_add]; exact hl)).trans hc'⟩
theorem below_rdc {w w1 w2 : World} {rb : Nat} (h : Below w.heap.size w w1) (hg : w1.grownBy w2 (some rb)) (hr : w.heap.size ≤ rb) : Below w.heap.size w w2 := h.grown hg h.size (fun k e => by injection e with e; omega)
set_option maxRecDepth 100000 in
set_option maxHeartbeats 2000000 in
theorem drawValidCache_any (A : Option Addr) (n c : Nat) (w : World) (h : SlB w A n c) : Calls Try.prog 10 #[.slice A n c] w (DrC w) := by
  obtain ⟨W0, hW0⟩ : ∃ W0, W0 = w.alloc (.cells #[.int .i64 0, .slice none 0 0] 25) := ⟨_, rfl⟩
  have hb0 : Below w.heap.size w W0 := by rw [hW0]; exact ext_alloc (Below.refl _ _) _
  have bz0 : Cx 25 W0 w.heap.size (.int .i64 0) (.slice none 0 0) := by rw [hW0]; exact Cx.new w _ _
  have hS := slB_extc h hb0
  have hlt := bz0.lt
  go_enter Try.func10, Try.ntmps10
  go_wp2_with fail
  rw [← hW0]
  clear hW0
  refine (newReader_any A n c W0 hS).mono ?_
  rintro e w1 ⟨rfl, hrd, hx, -⟩
  have hb1 := hb0.trans (hx.mono hb0.size)
  have bz1 := bz0.ext hx
  have hz1 := hrd.lt
  clear hx hb0 bz0 h hS
  go_wp2_with fail
  refine (anyCache_any W0.heap.size 0 w1 hrd (by omega)).mono ?_
  rintro e w2 ⟨r, P, pc, xs, q, rfl, h0, h1, sP, l1, hq2, hrd2, hg, rP⟩
  have hb2 := below_rdc hb1 hg (by omega)
  have bz := cx_far bz1 hg (by omega)
  have hz2 := hg.size
  clear hg bz1 hb1 hrd
  have z0 := bz.c0; have z1 := bz.c1; have y0 := bz.free 0; have y1 := bz.free 1
  go_wp2
  refine bodyPost_ret (v := .agg #[.int .i64 r, .slice P xs.length pc]) (by simp [results, Try.results10, go_sem, z0, z1]) rfl ?_
  exact ⟨r, P, pc, xs, rfl, h0, h1, SlI.cput2 sP (fun j hj => by have := rP j hj; omega), l1, cset2_old hb2 (Nat.le_refl _), fun j hj => by have := rP j hj; omega⟩
set_option maxRecDepth 100000 in
set_option maxHeartbeats 2000000 in
theorem drawUseStatement_any (A : Option Addr) (n c : Nat) (w : World) (h : SlB w A n c) : Calls Try.prog 13 #[.slice A n c] w (DrCO w) := by
  obtain ⟨W0, hW0⟩ : ∃ W0, W0 = w.alloc (.cells #[.int .i64 0, .slice none 0 0] 25) := ⟨_, rfl⟩
  have hb0 : Below w.heap.size w W0 := by rw [hW0]; exact ext_alloc (Below.refl _ _) _
  have bz0 : Cx 25 W0 w.heap.size (.int .i64 0) (.slice none 0 0) := by rw [hW0]; exact Cx.new w _ _
  have hS := slB_extc h hb0
  have hlt := bz0.lt
  go_enter Try.func13, Try.ntmps13
  go_wp2_with fail
  rw [← hW0]
  clear hW0
  refine (newReader_any A n c W0 hS).mono ?_
  rintro e w1 ⟨rfl, hrd, hx, -⟩
  have hb1 := hb0.trans (hx.mono hb0.size)
  have bz1 := bz0.ext hx
  have hz1 := hrd.lt
  clear hx hb0 bz0 h hS
  go_wp2_with fail
  refine (anyCache_any W0.heap.size 0 w1 hrd (by omega)).mono ?_
  rintro e w2 ⟨r, P, pc, xs, q, rfl, h0, h1, sP, l1, hq2, hrd2, hg, rP⟩
  have hb2 := below_rdc hb1 hg (by omega)
  have bz := cx_far bz1 hg (by omega)
  have hz2 := hg.size
  clear hg bz1 hb1 hrd
  go_upto_region 3 with fail
  obtain ⟨W5, hW5⟩ : ∃ W, W = w2.alloc (.cells #[.int .i64 r, .slice P xs.length pc] 25) := ⟨_, rfl⟩
  rw [← hW5]
  have hx : Below w2.heap.size w2 W5 := by rw [hW5]; exact ext_alloc (Below.refl _ _) _
  have bx : Cx 25 W5 w2.heap.size (.int .i64 r) (.slice P xs.length pc) := by rw [hW5]; exact Cx.new w2 _ _
  have sP5 := sP.ext hx; have bz5 := bz.ext hx; have hrd5 := hrd2.ext hx; have hb5 : Below w.heap.size w W5 := hb2.trans (hx.mono hb2.size)
  have hz5 := hx.size
  clear hW5 hx sP bz hrd2 hb2
  have ne1 : w2.heap.size ≠ w.heap.size := by omega
  have ne2 : w.heap.size ≠ w2.heap.size := by omega
  have c0 := bx.c0; have c1 := bx.c1
  have hmax := sP5.max
  have hcap := sP5.cap
  unfold maxLen at hmax
  by_cases hx0 : 0 < xs.length
  · have g0 : decide ((0 : Int) < (xs.length : Int)) = true := decide_eq_true (by omega)
    have g0' : decide (0 < xs.length) = true := decide_eq_true hx0
    go_wp2_with fail
    refine (pick_any W0.heap.size q 2 W5 hrd5 (by omega) (by omega)).mono ?_
    rintro e w6 ⟨y, rfl, -, -, hrd6, hg6, -⟩
    have bx7 := cx_far bx hg6 (by omega)
    have bz7 := cx_far bz5 hg6 (by omega)
    have hb7 := below_rdc hb5 hg6 (by omega)
    have hrow : ∀ {A' : Option Addr} {c' : Nat} {us : List Int}, SlI W5 A' c' us → (∀ j, rowOf A' us.length = some j → w1.heap.size < j) → SlI w6 A' c' us := fun hs hr => Sl.apart hs hg6 (fun j hj e => by injection e with e; have := hr j hj; omega)
    have s7 := hrow sP5 rP
    have hz6 := hg6.size
    clear hrow hg6 hrd5 bx bz5 hb5 sP5 c0 c1
    have c0 := bx7.c0; have c1 := bx7.c1
    by_cases hy : y = 0
    · have gy : (y == 0) = true := beq_iff_eq.2 hy
      clear hy
      obtain ⟨ad, rfl, -, -⟩ := SlI.at s7 hx0
      have PK := hd (pick_any W0.heap.size (q + 1) xs.length w6.drew (hrd6.ext (ext_drew (Below.refl _ _))) (by omega) (by omega))
      have H7 := hd (And.intro bx7 (And.intro bz7 (And.intro s7 hb7)))
      clear bx7 bz7 s7 hb7 hrd6
      go_wp2_with fail
      go_region_with
        (first
          | ((with_reducible refine PK.out.mono ?_); rintro e w8 ⟨i0, rfl, i1, i2, -, hg8', -⟩; have hi2 := i2 (by omega); obtain ⟨i, rfl⟩ : ∃ i : Nat, i0 = (i : Int) := ⟨i0.toNat, (by omega)⟩; have hil : i < xs.length := (by omega); have hg8 : w6.grownBy w8 (some W0.heap.size) := ⟨hg8'.os, hg8'.tape, hg8'.output, hg8'.size, hg8'.block⟩; have s8 : SlI w8 (some ad) pc xs := Sl.apart H7.out.2.2.1 hg8 (fun j hj e => (by injection e with e; have := rP j hj; omega)); have a0 := SlI.atC s8 hil; have a1 := SlI.atC (SlI.cput2 (g := w.heap.size) (a := .int .i64 r) (b := .slice (some ad) xs.length pc) s8 (fun j hj => (by have := rP j hj; omega))) hil; have bx8 := cx_far H7.out.1 hg8 (by omega); have d0 := bx8.c0; have d1 := bx8.c1; have bz := cx_far H7.out.2.1 hg8 (by omega); have z0 := bz.c0; have z1 := bz.c1; have y0 := bz.free 0; have y1 := bz.free 1; have HB8 := hd (And.intro s8 (below_rdc H7.out.2.2.2 hg8 (by omega))); clear bx8 bz hg8' hg8 s8 i2)
          | fail)
      all_goals go_wp2
      all_goals (
        refine bodyPost_ret (v := .tuple #[.agg #[.int .i64 r, .slice (some ad) xs.length pc], .int .i64 xs[i]]) (by simp [results, Try.results13, go_sem, z0, z1]) rfl ?_
        exact ⟨r, some ad, pc, xs, xs[i], rfl, h0, h1, SlI.cput2 HB8.out.1 (fun j hj => by have := rP j hj; omega), l1, cset2_old HB8.out.2 (Nat.le_refl _), fun j hj => by have := rP j hj; omega⟩)
    · have gy : (y == 0) = false := beq_eq_false_iff_ne.2 hy
      clear hy
      have PK := hd (pick_any W0.heap.size (q + 1) 12 w6.drew (hrd6.ext (ext_drew (Below.refl _ _))) (by omega) (by omega))
      have H7 := hd (And.intro bx7 (And.intro bz7 (And.intro s7 hb7)))
      clear bx7 bz7 s7 hb7 hrd6
      go_wp2_with fail
      go_region_held3 (fun W => W.cell? ⟨w2.heap.size, 0, none⟩ = some (.int .i64 r) ∧ W.cell? ⟨w2.heap.size, 1, none⟩ = some (.slice P xs.length pc)) (go_keep)
        (first
          | (go_at_call 28; (with_reducible refine PK.out.mono ?_); rintro e w8 ⟨i0, rfl, i1, i2, -, hg8', -⟩; have hi2 := i2 (by omega); have hg8 : w6.grownBy w8 (some W0.heap.size) := ⟨hg8'.os, hg8'.tape, hg8'.output, hg8'.size, hg8'.block⟩; have s8 : SlI w8 P pc xs := Sl.apart H7.out.2.2.1 hg8 (fun j hj e => (by injection e with e; have := rP j hj; omega)); have bx8 := cx_far H7.out.1 hg8 (by omega); have d0 := bx8.c0; have d1 := bx8.c1; have bz := cx_far H7.out.2.1 hg8 (by omega); have z0 := bz.c0; have z1 := bz.c1; have y0 := bz.free 0; have y1 := bz.free 1; have hwr : IntKind.i64.wrap (i0 - 1) = i0 - 1 := (by rw [IntKind.wrap_i64]; omega); have HB8 := hd (And.intro s8 (below_rdc H7.out.2.2.2 hg8 (by omega))); clear bx8 bz hg8' hg8 s8 i2)
          | fail)
      all_goals go_wp2
      all_goals (
        refine bodyPost_ret (v := .tuple #[.agg #[.int .i64 r, .slice P xs.length pc], .int .i64 (i0 - 1)]) (by simp [results, Try.results13, go_sem, z0, z1]) rfl ?_
        exact ⟨r, P, pc, xs, i0 - 1, rfl, h0, h1, SlI.cput2 HB8.out.1 (fun j hj => by have := rP j hj; omega), l1, cset2_old HB8.out.2 (Nat.le_refl _), fun j hj => by have := rP j hj; omega⟩)
  · have g0 : decide ((0 : Int) < (xs.length : Int)) = false := decide_eq_false (by omega)
    have g0' : decide (0 < xs.length) = false := decide_eq_false hx0
    have PK := hd (pick_any W0.heap.size q 12 W5.drew (hrd5.ext (ext_drew (Below.refl _ _))) (by omega) (by omega))
    have H7 := hd (And.intro bx (And.intro bz5 (And.intro sP5 hb5)))
    clear bx bz5 sP5 hb5 hrd5
    go_wp2_with fail
    go_region_held3 (fun W => W.cell? ⟨w2.heap.size, 0, none⟩ = some (.int .i64 r) ∧ W.cell? ⟨w2.heap.size, 1, none⟩ = some (.slice P xs.length pc)) (go_keep)
      (first
        | (go_at_call 28; (with_reducible refine PK.out.mono ?_); rintro e w8 ⟨i0, rfl, i1, i2, -, hg8', -⟩; have hi2 := i2 (by omega); have hg8 : W5.grownBy w8 (some W0.heap.size) := ⟨hg8'.os, hg8'.tape, hg8'.output, hg8'.size, hg8'.block⟩; have s8 : SlI w8 P pc xs := Sl.apart H7.out.2.2.1 hg8 (fun j hj e => (by injection e with e; have := rP j hj; omega)); have bx8 := cx_far H7.out.1 hg8 (by omega); have d0 := bx8.c0; have d1 := bx8.c1; have bz := cx_far H7.out.2.1 hg8 (by omega); have z0 := bz.c0; have z1 := bz.c1; have y0 := bz.free 0; have y1 := bz.free 1; have hwr : IntKind.i64.wrap (i0 - 1) = i0 - 1 := (by rw [IntKind.wrap_i64]; omega); have HB8 := hd (And.intro s8 (below_rdc H7.out.2.2.2 hg8 (by omega))); clear bx8 bz hg8' hg8 s8 i2)
        | fail)
    all_goals go_wp2
    all_goals (
      refine bodyPost_ret (v := .tuple #[.agg #[.int .i64 r, .slice P xs.length pc], .int .i64 (i0 - 1)]) (by simp [results, Try.results13, go_sem, z0, z1]) rfl ?_
      exact ⟨r, P, pc, xs, i0 - 1, rfl, h0, h1, SlI.cput2 HB8.out.1 (fun j hj => by have := rP j hj; omega), l1, cset2_old HB8.out.2 (Nat.le_refl _), fun j hj => by have := rP j hj; omega⟩)
set_option maxRecDepth 100000 in
set_option maxHeartbeats 2000000 in
theorem drawDropStatement_any (A : Option Addr) (n c : Nat) (w : World) (h : SlB w A n c) : Calls Try.prog 20 #[.slice A n c] w (DrCO w) := by
  obtain ⟨W0, hW0⟩ : ∃ W0, W0 = w.alloc (.cells #[.int .i64 0, .slice none 0 0] 25) := ⟨_, rfl⟩
  have hb0 : Below w.heap.size w W0 := by rw [hW0]; exact ext_alloc (Below.refl _ _) _
  have bz0 : Cx 25 W0 w.heap.size (.int .i64 0) (.slice none 0 0) := by rw [hW0]; exact Cx.new w _ _
  have hS := slB_extc h hb0
  have hlt := bz0.lt
  go_enter Try.func20, Try.ntmps20
  go_wp2_with fail
  rw [← hW0]
  clear hW0
  refine (drawUseStatement_any A n c W0 hS).mono ?_
  rintro e w1 ⟨r, P, pc, xs, v, rfl, h0, h1, sP, l1, hx, rP⟩
  have hb1 := hb0.trans (hx.mono hb0.size)
  have bz := bz0.ext hx
  have z0 := bz.c0; have z1 := bz.c1; have y0 := bz.free 0; have y1 := bz.free 1
  clear hx hb0 bz0 h hS
  go_wp2
  refine bodyPost_ret (v := .tuple #[.agg #[.int .i64 r, .slice P xs.length pc], .int .i64 v]) (by simp [results, Try.results20, go_sem, z0, z1]) rfl ?_
  exact ⟨r, P, pc, xs, v, rfl, h0, h1, SlI.cput2 sP (fun j hj => by have := rP j hj; omega), l1, cset2_old hb1 (Nat.le_refl _), fun j hj => by have := rP j hj; omega⟩
end Go.Proofs.Ytkbbjkjdcdjnbaa
