/- The exact laws' small functions over shares: sizes, copies, equality. -/
import Derived.Test.YtgoeeojlholegaaExI
import Derived.Test.YtgoeeojlholegaaWSc
namespace Go.Proofs.Ytgoeeojlholegaa
open Go.RowKit
/-- What is left of the size after both lists. -/
def lft2 (n m : Nat) : Int := if lft 1048576 n < 0 then -1 else lft (lft 1048576 n) m
theorem lft2_in {n m : Nat} (h1 : n ≤ 1048576) (h2 : n + m ≤ 1048576) : ∃ k : Nat, lft2 n m = (k : Int) ∧ k ≤ 1048576 := by
  refine ⟨1048576 - n - m, ?_, by omega⟩
  unfold lft2 lft
  have a : ¬ ((1048576 : Int) - n < 0) := by omega
  have b : ¬ ((1048576 : Int) - n - m < 0) := by omega
  rw [if_neg a, if_neg a, if_neg b]
  omega
theorem lft2_out {n m : Nat} (h : ¬ (n ≤ 1048576 ∧ n + m ≤ 1048576)) : lft2 n m = -1 := by
  unfold lft2 lft
  by_cases a : (1048576 : Int) - n < 0
  · rw [if_pos a]; rfl
  · have b : (1048576 : Int) - n - m < 0 := by omega
    rw [if_neg a, if_neg a, if_pos b]
theorem lft_two {k m : Nat} (hk : k ≤ 1048576) : (lft (k : Int) m = -1) ∨ ∃ j : Nat, lft (k : Int) m = (j : Int) ∧ j ≤ 1048576 := by
  unfold lft
  by_cases h : (k : Int) - m < 0
  · exact .inl (if_pos h)
  · exact .inr ⟨k - m, by rw [if_neg h]; omega, by omega⟩
set_option maxHeartbeats 400000 in
theorem szSh_any (t : Int) (A : Option Addr) (n c : Nat) (B : Option Addr) (m d : Nat) (w : World) (hn : n ≤ 9223372036854775807) (hm : m ≤ 9223372036854775807) :
    Calls Try.prog 8 #[.agg #[.int .i64 t, .slice A n c, .slice B m d], .int .i64 1048576] w fun e w' => e = .returned (.int .i64 (lft2 n m)) ∧ Below w.heap.size w w' := by
  by_cases hl : n ≤ 1048576
  · obtain ⟨k, hk, hk1⟩ := lft_in hl
    have HK := hd hk
    have HL := hd (show lft2 n m = lft (k : Int) m by unfold lft2; rw [hk, if_neg (by omega)])
    clear hk
    rcases lft_two (k := k) (m := m) hk1 with h2 | ⟨j, h2, hj⟩
    · have H2 := hd h2
      clear h2
      go_enter Try.func8, Try.ntmps8
      go_wp2_with fail
      refine (szIS_any A _ c 1048576 _ hn (by decide) (by decide)).mono ?_
      rintro e w' ⟨rfl, rfl⟩
      rw [HK.out]
      go_wp2_with fail
      refine (szIS_any B _ d _ _ hm (by omega) (by omega)).mono ?_
      rintro e w' ⟨rfl, rfl⟩
      rw [H2.out]
      go_wp2
      go_ret
      exact ⟨by rw [HL.out, H2.out]; rfl, ext_alloc (Below.refl _ _) _⟩
    · have H2 := hd h2
      clear h2
      go_enter Try.func8, Try.ntmps8
      go_wp2_with fail
      refine (szIS_any A _ c 1048576 _ hn (by decide) (by decide)).mono ?_
      rintro e w' ⟨rfl, rfl⟩
      rw [HK.out]
      go_wp2_with fail
      refine (szIS_any B _ d _ _ hm (by omega) (by omega)).mono ?_
      rintro e w' ⟨rfl, rfl⟩
      rw [H2.out]
      go_wp2
      go_ret
      exact ⟨by rw [HL.out, H2.out]; rfl, ext_alloc (Below.refl _ _) _⟩
  · have HK := hd (lft_out hl)
    have HL := hd (lft2_out (n := n) (m := m) (fun h => hl h.1))
    go_enter Try.func8, Try.ntmps8
    go_wp2_with fail
    refine (szIS_any A _ c 1048576 _ hn (by decide) (by decide)).mono ?_
    rintro e w' ⟨rfl, rfl⟩
    rw [HK.out]
    go_wp2
    go_ret
    exact ⟨by rw [HL.out]; rfl, ext_alloc (Below.refl _ _) _⟩
/-- Three cells in a block of a given type. -/
def Bt (e : TypeId) (w : World) (g : Nat) (u v x : Value) : Prop := w.heap[g]? = some (.cells #[u, v, x] e (0, 0))
section
variable {w w' : World} {g : Nat} {u v x : Value} {e : TypeId}
theorem Bt.lt (h : Bt e w g u v x) : g < w.heap.size := lt_of_block h
theorem Bt.c0 (h : Bt e w g u v x) : w.cell? ⟨g, 0, none⟩ = some u := by rw [cell_of_row _ _ _ _ _ _ h]; rfl
theorem Bt.c1 (h : Bt e w g u v x) : w.cell? ⟨g, 1, none⟩ = some v := by rw [cell_of_row _ _ _ _ _ _ h]; rfl
theorem Bt.c2 (h : Bt e w g u v x) : w.cell? ⟨g, 2, none⟩ = some x := by rw [cell_of_row _ _ _ _ _ _ h]; rfl
theorem Bt.ext (h : Bt e w g u v x) (hb : Below w.heap.size w w') : Bt e w' g u v x := (hb.block g h.lt).trans h
theorem Bt.new (w : World) (u v x : Value) : Bt e (w.alloc (.cells #[u, v, x] e)) w.heap.size u v x := heap_alloc_new w _
theorem Bt.alloc (h : Bt e w g u v x) (o : Obj) : Bt e (w.alloc o) g u v x := (Below.heap_alloc w o g h.lt).trans h
theorem Bt.free (h : Bt e w g u v x) (i : Nat) : w.frozen? ⟨g, i, none⟩ = false := by unfold Bt at h; simp [World.frozen?, h]
theorem Bt.far (h : Bt e w g u v x) {k i : Nat} {a : Value} (hk : k ≠ g) : Bt e (w.setCell ⟨k, i, none⟩ a) g u v x := by
  unfold Bt at h ⊢
  rw [Below.heap_setCell w ⟨k, i, none⟩ a g (fun e => hk e.symm)]
  exact h
theorem Bt.set1 (h : Bt e w g u v x) {a : Value} : Bt e (w.setCell ⟨g, 1, none⟩ a) g u a x := by
  unfold Bt at h ⊢
  simp [World.setCell, Array.getElem?_modify, h]
end
theorem set1_grown (w : World) (g i : Nat) (a : Value) : w.grownBy (w.setCell ⟨g, i, none⟩ a) (some g) :=
  ⟨rfl, rfl, rfl, by rw [setCell_size]; exact Nat.le_refl _, fun k _ hne => Below.heap_setCell w ⟨g, i, none⟩ a k (fun e => hne (by rw [e]))⟩
theorem set1_apart {w : World} {B g i c : Nat} {A : Option Addr} {us : List Int} {a : Value} (h : RwI w B A c us) (hg : g < B) : RwI (w.setCell ⟨g, i, none⟩ a) B A c us :=
  Rw.apart h (set1_grown w g i a) (fun j hj e => by have := (Rw.row h j hj).1; injection e with e; omega)
theorem set1_below {B : Nat} {w X : World} {g i : Nat} {a : Value} (h : Below B w X) (hB : B ≤ w.heap.size) (hg : B ≤ g) : Below B w (X.setCell ⟨g, i, none⟩ a) :=
  h.grown (set1_grown X g i a) (Nat.le_trans hB h.size) (fun j e => by injection e with e; omega)
set_option maxRecDepth 100000 in
set_option maxHeartbeats 1000000 in
theorem toSh_any (t : Int) (A : Option Addr) (c : Nat) (xs : List Int) (B : Option Addr) (d : Nat) (ys : List Int) (w : World) (h : SlI w A c xs) (h' : SlI w B d ys) (hl : xs.length ≤ 1048576) (hl' : ys.length ≤ 1048576) :
    Calls Try.prog 10 #[.agg #[.int .i64 t, .slice A xs.length c, .slice B ys.length d]] w (NewSh t xs ys w) := by
  obtain ⟨W0, hW0⟩ : ∃ W0, W0 = ((w.alloc (.cells #[.int .i64 t, .slice A xs.length c, .slice B ys.length d] 24)).alloc (.cells #[.int .i64 0, .slice none 0 0, .slice none 0 0] 27)).alloc (.cells #[.int .i64 t, .slice none 0 0, .slice none 0 0] 27) := ⟨_, rfl⟩
  have hb0 : Below w.heap.size w W0 := by rw [hW0]; exact ext_alloc (ext_alloc (ext_alloc (Below.refl _ _) _) _) _
  have bA : Bt 24 W0 w.heap.size (.int .i64 t) (.slice A xs.length c) (.slice B ys.length d) := by rw [hW0]; exact ((Bt.new w _ _ _).alloc _).alloc _
  have bR : Bt 27 W0 (w.heap.size + 1) (.int .i64 0) (.slice none 0 0) (.slice none 0 0) := by
    have := (Bt.new (e := 27) (w.alloc (.cells #[.int .i64 t, .slice A xs.length c, .slice B ys.length d] 24)) (.int .i64 0) (.slice none 0 0) (.slice none 0 0)).alloc (.cells #[.int .i64 t, .slice none 0 0, .slice none 0 0] 27)
    rw [World.size_alloc] at this
    rw [hW0]
    exact this
  have bS : Bt 27 W0 (w.heap.size + 1 + 1) (.int .i64 t) (.slice none 0 0) (.slice none 0 0) := by
    have := Bt.new (e := 27) ((w.alloc (.cells #[.int .i64 t, .slice A xs.length c, .slice B ys.length d] 24)).alloc (.cells #[.int .i64 0, .slice none 0 0, .slice none 0 0] 27)) (.int .i64 t) (.slice none 0 0) (.slice none 0 0)
    rw [World.size_alloc, World.size_alloc] at this
    rw [hW0]
    exact this
  have hW2 : w.heap.size + 3 ≤ W0.heap.size := by rw [hW0]; simp
  have H0 := hd (And.intro bA (And.intro bR bS))
  have s0 := h.ext hb0
  have s0' := h'.ext hb0
  have HB0 := hd hb0
  have HH' := hd h'
  clear bA bR bS hb0 h h'
  go_enter Try.func10, Try.ntmps10
  go_wp2_with fail
  rw [← hW0]
  clear hW0
  refine (toIS_any A c xs W0 s0 hl).mono ?_
  rintro e w1 ⟨P, p, rfl, rP, hx⟩
  obtain ⟨W1, hW1⟩ : ∃ W1, W1 = w1.setCell ⟨w.heap.size + 1 + 1, 1, none⟩ (.slice P xs.length p) := ⟨_, rfl⟩
  have bS0 := H0.out.2.2.ext hx
  have bA0 := H0.out.1.ext hx
  have bR0 := H0.out.2.1.ext hx
  have z0 := bS0.c1
  have f0 := bS0.free 1
  have a2 := bA0.c2
  have hz1 : W1.heap.size = w1.heap.size := by rw [hW1]; exact setCell_size _ _ _
  have HG := hd (show Bt 27 W1 (w.heap.size + 1 + 1) (.int .i64 t) (.slice P xs.length p) (.slice none 0 0) ∧ Bt 27 W1 (w.heap.size + 1) (.int .i64 0) (.slice none 0 0) (.slice none 0 0) ∧ RwI W1 W0.heap.size P p xs ∧ Below w.heap.size w W1 ∧ W0.heap.size ≤ W1.heap.size by
    rw [hW1]
    refine ⟨bS0.set1, bR0.far (by omega), set1_apart rP (by omega), set1_below (HB0.out.trans (hx.mono HB0.out.size)) (Nat.le_refl _) (by omega), ?_⟩
    rw [setCell_size]
    exact hx.size)
  have s1' : SlI W1 B d ys := HH'.out.ext HG.out.2.2.2.1
  clear bS0 bA0 bR0 s0 s0' rP hx hz1
  go_wp2_with fail
  rw [← hW1]
  clear hW1
  refine (toIS_any B d ys W1 s1' hl').mono ?_
  rintro e w2 ⟨Q, q, rfl, rQ, hx⟩
  have bS := HG.out.1.ext hx
  have bR := HG.out.2.1.ext hx
  have c0 := bS.c0
  have c1 := bS.c1
  have c2 := bS.c2
  have d0 := bR.c0
  have d1 := bR.c1
  have d2 := bR.c2
  have e0 := bS.free 2
  have g0 := bR.free 0
  have g1 := bR.free 1
  have g2 := bR.free 2
  have HF := hd (show RwI (w2.setCell ⟨w.heap.size + 1 + 1, 2, none⟩ (.slice Q ys.length q)) W0.heap.size P p xs ∧ RwI (w2.setCell ⟨w.heap.size + 1 + 1, 2, none⟩ (.slice Q ys.length q)) W0.heap.size Q q ys ∧ (∀ j, rowOf P xs.length = some j → rowOf Q ys.length ≠ some j) ∧ Below w.heap.size w (w2.setCell ⟨w.heap.size + 1 + 1, 2, none⟩ (.slice Q ys.length q)) from
    ⟨set1_apart (HG.out.2.2.1.ext hx) (by omega), set1_apart (rQ.low HG.out.2.2.2.2) (by omega), rows_apart HG.out.2.2.1 rQ (Nat.le_refl _), set1_below (HG.out.2.2.2.1.trans (hx.mono (Nat.le_trans (by omega) HG.out.2.2.2.2))) (Nat.le_refl _) (by omega)⟩)
  clear bS bR rQ hx s1' HG
  go_wp2
  refine bodyPost_ret (v := .agg #[.int .i64 t, .slice P xs.length p, .slice Q ys.length q]) (by simp [results, Try.results10, go_sem, d0, d1, d2]) rfl ?_
  exact ⟨P, p, Q, q, rfl, res_apart HF.out.1 (by omega) (by omega), res_apart HF.out.2.1 (by omega) (by omega), HF.out.2.2.1, res_below HF.out.2.2.2 (by omega)⟩
set_option maxHeartbeats 1000000 in
theorem eqSh_same (t : Int) (A : Option Addr) (c : Nat) (xs : List Int) (B : Option Addr) (d : Nat) (ys : List Int) (A' : Option Addr) (c' : Nat) (B' : Option Addr) (d' : Nat) (w : World) (h : SlI w A c xs) (h' : SlI w B d ys) (k : SlI w A' c' xs) (k' : SlI w B' d' ys) :
    Calls Try.prog 12 #[.agg #[.int .i64 t, .slice A xs.length c, .slice B ys.length d], .agg #[.int .i64 t, .slice A' xs.length c', .slice B' ys.length d']] w fun e w' => e = .returned (.bool true) ∧ Below w.heap.size w w' := by
  obtain ⟨W0, hW0⟩ : ∃ W0, W0 = (w.alloc (.cells #[.int .i64 t, .slice A xs.length c, .slice B ys.length d] 27)).alloc (.cells #[.int .i64 t, .slice A' xs.length c', .slice B' ys.length d'] 27) := ⟨_, rfl⟩
  have hb0 : Below w.heap.size w W0 := by rw [hW0]; exact ext_alloc (ext_alloc (Below.refl _ _) _) _
  have bA : Bt 27 W0 w.heap.size (.int .i64 t) (.slice A xs.length c) (.slice B ys.length d) := by rw [hW0]; exact (Bt.new w _ _ _).alloc _
  have bR : Bt 27 W0 (w.heap.size + 1) (.int .i64 t) (.slice A' xs.length c') (.slice B' ys.length d') := by
    have := Bt.new (e := 27) (w.alloc (.cells #[.int .i64 t, .slice A xs.length c, .slice B ys.length d] 27)) (.int .i64 t) (.slice A' xs.length c') (.slice B' ys.length d')
    rw [World.size_alloc] at this
    rw [hW0]
    exact this
  have HB0 := hd hb0
  have HS := hd (And.intro h (And.intro h' (And.intro k k')))
  have s1 := h.ext hb0
  have s2 := k.ext hb0
  have S1 := hd (sameI_self xs)
  have S2 := hd (sameI_self ys)
  have gt : (t != t) = false := by simp
  have H0 := hd (And.intro bA bR)
  have c0 := bA.c0
  have d0 := bR.c0
  have c1 := bA.c1
  have d1 := bR.c1
  clear bA bR hb0 h h' k k'
  go_enter Try.func12, Try.ntmps12
  go_wp2_with fail
  rw [← hW0]
  clear hW0
  refine (eqIS_any _ _ _ _ _ _ _ s1 s2).mono ?_
  rintro e w1 ⟨rfl, hx⟩
  rw [S1.out]
  have hb1 := HB0.out.trans (hx.mono HB0.out.size)
  have s1 := HS.out.2.1.ext hb1
  have s2 := HS.out.2.2.2.ext hb1
  have bA := H0.out.1.ext hx
  have bR := H0.out.2.ext hx
  have c2 := bA.c2
  have d2 := bR.c2
  have HB1 := hd hb1
  clear bA bR hx hb1 c0 d0 c1 d1 HB0
  go_wp2_with fail
  refine (eqIS_any _ _ _ _ _ _ _ s1 s2).mono ?_
  rintro e w2 ⟨rfl, hx⟩
  rw [S2.out]
  go_wp2
  go_ret
  exact ⟨rfl, HB1.out.trans (hx.mono HB1.out.size)⟩
end Go.Proofs.Ytgoeeojlholegaa
