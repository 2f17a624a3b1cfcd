/- What the draws of the arguments of caches' functions give. -/
import Derived.Test.YtmenknnncjbbpaaDrCa
namespace Go.Proofs.Ytmenknnncjbbpaa
open Go.RowKit
/-- A cache held in a block, and its list. -/
structure Hc (W : World) (g : Nat) (r : Int) (P : Option Addr) (p : Nat) (xs : List Int) : Prop where
  bx : Cx 31 W g (.int .i64 r) (.slice P xs.length p)
  sx : SlI W P p xs
theorem Hc.ext {W W' : World} {g : Nat} {r : Int} {P : Option Addr} {p : Nat} {xs : List Int} (h : Hc W g r P p xs) (hx : Below W.heap.size W W') : Hc W' g r P p xs := ⟨h.bx.ext hx, h.sx.ext hx⟩
theorem hc_new {r : Int} {P : Option Addr} {p : Nat} {xs : List Int} (W : World) (h : SlI W P p xs) : Hc (W.alloc (.cells #[.int .i64 r, .slice P xs.length p] 31)) W.heap.size r P p xs := ⟨Cx.new W _ _, Sl.alloc h _⟩
/-- A cache drawn from a code. -/
def DrC (w : World) (e : Ending) (w' : World) : Prop :=
  ∃ (r : Int) (P : Option Addr) (pc : Nat) (xs : List Int), e = .returned (.agg #[.int .i64 r, .slice P xs.length pc]) ∧ -1 ≤ r ∧ r ≤ 7 ∧ SlI w' P pc xs ∧ xs.length ≤ 100 ∧ Below w.heap.size w w' ∧ (∀ j, rowOf P xs.length = some j → w.heap.size < j)
/-- A cache and a name drawn. -/
def DrCO (w : World) (e : Ending) (w' : World) : Prop :=
  ∃ (r : Int) (P : Option Addr) (pc : Nat) (xs : List Int) (v : Int), e = .returned (.tuple #[.agg #[.int .i64 r, .slice P xs.length pc], .int .i64 v]) ∧ -1 ≤ r ∧ r ≤ 7 ∧ SlI w' P pc xs ∧ xs.length ≤ 100 ∧ Below w.heap.size w w' ∧ (∀ j, rowOf P xs.length = some j → w.heap.size < j)
/-- A cache and names drawn. -/
def DrCN (w : World) (e : Ending) (w' : World) : Prop :=
  ∃ (r : Int) (P : Option Addr) (pc : Nat) (xs : List Int) (E : Option Addr) (f : Nat) (ns : List Int), e = .returned (.tuple #[.agg #[.int .i64 r, .slice P xs.length pc], .slice E ns.length f]) ∧ -1 ≤ r ∧ r ≤ 7 ∧ SlI w' P pc xs ∧ xs.length ≤ 100 ∧ SlI w' E f ns ∧ ns.length ≤ 100 ∧ Below w.heap.size w w'
theorem slB_extc {w w' : World} {A : Option Addr} {n c : Nat} (h : SlB w A n c) (hb : Below w.heap.size w w') : SlB w' A n c := by
  refine ⟨h.1, h.2.1, fun h0 => ?_⟩
  obtain ⟨ad, e, hl, hc⟩ := h.2.2 h0
  refine ⟨ad, e, Nat.lt_of_lt_of_le hl hb.size, fun j hj => ?_⟩
  obtain ⟨b, b0, b1, hc'⟩ := hc j hj
  exact ⟨b, b0, b1, (hb.cell (by rw [blk_add]; exact hl)).trans hc'⟩
theorem below_rdc {w w1 w2 : World} {rb : Nat} (h : Below w.heap.size w w1) (hg : w1.grownBy w2 (some rb)) (hr : w.heap.size ≤ rb) : Below w.heap.size w w2 := h.grown hg h.size (fun k e => by injection e with e; omega)
/-- Names, drawn. -/
def Named (w : World) (rb p : Nat) (e : Ending) (w' : World) : Prop :=
  ∃ (A : Option Addr) (c : Nat) (zs : List Int) (q : Nat), e = .returned (.slice A zs.length c) ∧ SlI w' A c zs ∧ zs.length ≤ 18 ∧ q ≤ p + 30 ∧ Rd w' rb q ∧ w.grownBy w' (some rb) ∧ (∀ ad, A = some ad → w.heap.size ≤ ad.block)
set_option maxHeartbeats 1000000 in
theorem someNames_any (rb q : Nat) (w2 : World) (hrd2 : Rd w2 rb q) (hq : q ≤ 900000) :
    Calls Try.prog 28 #[.pointer (some ⟨rb, 0, none⟩)] w2 (Named w2 rb q) := by
  have hz2 := hrd2.lt
  go_enter Try.func28, Try.ntmps28
  go_wp2_with fail
  refine (one_any rb q (some ⟨w2.heap.size + 1, 0, none⟩) 7 [6, 8, 4, 16, 2, 0, 17] _ ((hrd2.ext ((Below.refl _ _).alloc (Nat.le_refl _) _)).ext ((Below.refl _ _).alloc (Nat.le_refl _) _)) (by omega) (by have := slI_made (w2.alloc (.cells #[] 3)) 3 [6, 8, 4, 16, 2, 0, 17] (by decide); rw [World.size_alloc] at this; exact this) (by decide) (by decide) (fun ad e => by injection e with e; subst e; show w2.heap.size + 1 ≠ rb; omega)).mono ?_
  rintro e w3 ⟨v, rfl, hv, hrd3, hg3, -⟩
  have hv2 : 0 ≤ v ∧ v ≤ 17 := by
    simp only [List.mem_cons, List.not_mem_nil, or_false] at hv
    omega
  have hv0 := hv2.1
  have hv1 := hv2.2
  have hG3 : w2.grownBy w3 (some rb) := grown_same (World.grownBy_alloc w2 _ _) (grown_same (World.grownBy_alloc _ _ _) hg3)
  have ho3 : w3.ownsRow w2.heap.size 3 1 (.slice (some ⟨w2.heap.size, 0, none⟩) 0 0) 0 [] := own_far (own_made w2 _ 1 [] 0 rfl (by decide)) (grown_same (World.grownBy_alloc _ _ _) hg3) (by omega)
  clear hv hv2 hg3
  go_wp2_with fail
  go_loopw [3, 4] (fun v i wr => ∃ (x : Int) (ys : List Int) (p : Nat), i = .int .i64 x ∧ 0 ≤ x ∧ x + ys.length ≤ 17 ∧ p ≤ q + 1 + ys.length ∧ wr.ownsRow w2.heap.size 3 1 v ys.length (ci ys) ∧ Rd wr rb p ∧ w2.grownBy wr (some rb)) (fun _ i _ => (intOf i).toNat)
  case atStart => exact ⟨v, [], q + 1, rfl, hv0, by simp; omega, by simp, ho3, hrd3, hG3⟩
  case round =>
    clear ho3 hrd3 hG3 hv0 hv1
    obtain ⟨x, ys, p, rfl, hx0, hx1, hp, hown, hrd, hg⟩ := hrel
    by_cases hlt : 0 < x
    · have hzr : w2.heap.size ≤ wr.heap.size := hg.size
      go_wp2_with fail
      refine (pick_any rb p 6 wr hrd (by omega) (by omega)).mono ?_
      rintro e wa ⟨a, rfl, -, -, hrda, hga, -⟩
      have howna := own_far hown hga (by omega)
      have hGa := grown_same hg hga
      clear hown hrd hg hga
      go_wp2_with (at_builtin; refine wpList_app eltI _ _ (news := ci [a]) (m := 1) howna rfl (ci_one _) (by omega) (by omega) hGa.size (by rfl) (by rfl) (by rfl) (by rfl) ?_; intro v' w4 hown4 hg4)
      go_roundw
      case rel => exact ⟨x - 1, ys ++ [a], p + 1, rfl, by omega, by simp; omega, by simp; omega, by rw [ci_append, List.length_append]; exact hown4, hrda.grown hg4 (fun j hj => by have := own_ge howna j hj; omega), grown_step hGa hg4 (fun j hj => .inr (own_ge howna j hj))⟩
      case measure => simp [intOf]; omega
    · obtain rfl : x = 0 := by omega
      have hzr : w2.heap.size ≤ wr.heap.size := hg.size
      obtain ⟨A2, c2, rfl, hs2, hA2⟩ := slI_of_own hown rfl rfl
      clear hown
      go_wp2_with fail
      refine (spoil_any rb p A2 c2 ys 10 wr hrd (by omega) hs2 (by omega)).mono ?_
      rintro e w5 ⟨A3, c3, zs, q3, rfl, hs3, hl3, hq3, hrd5, hg5, hA3⟩
      have hG5 := grown_same hg hg5
      clear hg hg5 hA2 hs2 hrd
      go_wp2
      go_ret
      exact ⟨A3, c3, zs, q3, rfl, hs3, by omega, by omega, hrd5, hG5, fun ad e => by have := hA3 ad e; omega⟩
set_option maxRecDepth 100000 in
set_option maxHeartbeats 2000000 in
theorem drawCountPrepares_any (A : Option Addr) (n c : Nat) (w : World) (h : SlB w A n c) : Calls Try.prog 12 #[.slice A n c] w (DrCN w) := by
  obtain ⟨W0, hW0⟩ : ∃ W0, W0 = w.alloc (.cells #[.int .i64 0, .slice none 0 0] 31) := ⟨_, rfl⟩
  have hb0 : Below w.heap.size w W0 := by rw [hW0]; exact ext_alloc (Below.refl _ _) _
  have bz0 : Cx 31 W0 w.heap.size (.int .i64 0) (.slice none 0 0) := by rw [hW0]; exact Cx.new w _ _
  have hS := slB_extc h hb0
  have hlt := bz0.lt
  go_enter Try.func12, Try.ntmps12
  go_wp2_with fail
  rw [← hW0]
  clear hW0
  refine (newReader_any A n c W0 hS).mono ?_
  rintro e w1 ⟨rfl, hrd, hx, -⟩
  have hb1 := hb0.trans (hx.mono hb0.size)
  have bz1 := bz0.ext hx
  have hz1 := hrd.lt
  clear hx hb0 bz0 h hS
  go_wp2_with fail
  refine (anyCache_any W0.heap.size 0 w1 hrd (by omega)).mono ?_
  rintro e w2 ⟨r, P, pc, xs, q, rfl, h0, h1, sP, l1, hq2, hrd2, hg, rP⟩
  have hb2 := below_rdc hb1 hg (by omega)
  have bz := cx_far bz1 hg (by omega)
  have hz2 := hg.size
  clear hg bz1 hb1 hrd
  go_upto_region 3 with fail
  obtain ⟨W5, hW5⟩ : ∃ W, W = w2.alloc (.cells #[.int .i64 r, .slice P xs.length pc] 31) := ⟨_, rfl⟩
  rw [← hW5]
  have hx : Below w2.heap.size w2 W5 := by rw [hW5]; exact ext_alloc (Below.refl _ _) _
  have bx : Cx 31 W5 w2.heap.size (.int .i64 r) (.slice P xs.length pc) := by rw [hW5]; exact Cx.new w2 _ _
  have sP5 := sP.ext hx; have bz5 := bz.ext hx; have hrd5 := hrd2.ext hx; have hb5 : Below w.heap.size w W5 := hb2.trans (hx.mono hb2.size)
  have hz5 := hx.size
  clear hW5 hx sP bz hrd2 hb2
  have ne1 : w2.heap.size ≠ w.heap.size := by omega
  have ne2 : w.heap.size ≠ w2.heap.size := by omega
  have c0 := bx.c0; have c1 := bx.c1
  have ASK := hd (someNames_any W0.heap.size q W5.drew (hrd5.ext (ext_drew (Below.refl _ _))) (by omega))
  have H5 := hd (And.intro bx (And.intro bz5 (And.intro sP5 hb5)))
  clear bz5 bx sP5 hb5 hrd5
  go_region_held3 (fun W => W.cell? ⟨w2.heap.size, 0, none⟩ = some (.int .i64 r) ∧ W.cell? ⟨w2.heap.size, 1, none⟩ = some (.slice P xs.length pc)) (go_keep)
    (first
      | (go_at_call 28; (with_reducible refine ASK.out.mono ?_); rintro e w6 ⟨E, f, ns, q6, rfl, hs6, hl6, -, -, hg6', hE⟩; have hg6 : W5.grownBy w6 (some W0.heap.size) := ⟨hg6'.os, hg6'.tape, hg6'.output, hg6'.size, hg6'.block⟩; have bx6 := cx_far H5.out.1 hg6 (by omega); have d0 := bx6.c0; have d1 := bx6.c1; have bz := cx_far H5.out.2.1 hg6 (by omega); have z0 := bz.c0; have z1 := bz.c1; have y0 := bz.free 0; have y1 := bz.free 1; have HG := hd hg6; have HE := hd (row_of_ad (n := ns.length) hE); have HS := hd hs6; have HL := hd hl6; clear bx6 bz hg6 hg6' hE hs6 hl6)
      | fail)
  all_goals go_wp2
  all_goals (
    have hE : ∀ j, rowOf E ns.length = some j → w.heap.size < j := fun j hj => by have := HE.out j hj; have : W5.drew.heap.size = W5.heap.size := rfl; omega
    have sP6 : SlI w6 P pc xs := Sl.apart H5.out.2.2.1 HG.out (fun j hj e => by injection e with e; have := rP j hj; omega)
    refine bodyPost_ret (v := .tuple #[.agg #[.int .i64 r, .slice P xs.length pc], .slice E ns.length f]) (by simp [results, Try.results12, go_sem, z0, z1]) rfl ?_
    exact ⟨r, P, pc, xs, E, f, ns, rfl, h0, h1, SlI.cput2 sP6 (fun j hj => by have := rP j hj; omega), l1, SlI.cput2 HS.out (fun j hj => by have := hE j hj; omega), by have := HL.out; omega, cset2_old (below_rdc H5.out.2.2.2 HG.out (by omega)) (Nat.le_refl _)⟩)
end Go.Proofs.Ytmenknnncjbbpaa
