/- The exact laws' small functions over caches: sizes, copies, equality, marks. -/
import Derived.Test.YtjhhacmfhancpaaExI
import Derived.Test.YtjhhacmfhancpaaMCa
namespace Go.Proofs.Ytjhhacmfhancpaa
open Go.RowKit
set_option maxHeartbeats 400000 in
theorem szC_any (t : Int) (A : Option Addr) (n c : Nat) (w : World) (hn : n ≤ 9223372036854775807) :
    Calls Try.prog 8 #[.agg #[.int .i64 t, .slice A n c], .int .i64 1048576] w fun e w' => e = .returned (.int .i64 (lft 1048576 n)) ∧ Below w.heap.size w w' := by
  by_cases hl : n ≤ 1048576
  · obtain ⟨k, hk, hk1⟩ := lft_in hl
    have HK := hd hk
    clear hk
    go_enter Try.func8, Try.ntmps8
    go_wp2_with fail
    refine (szIS_any A _ c 1048576 _ hn (by decide) (by decide)).mono ?_
    rintro e w' ⟨rfl, rfl⟩
    rw [HK.out]
    go_wp2
    go_ret
    exact ⟨by rw [HK.out]; rfl, ext_alloc (Below.refl _ _) _⟩
  · have HK := hd (lft_out hl)
    go_enter Try.func8, Try.ntmps8
    go_wp2_with fail
    refine (szIS_any A _ c 1048576 _ hn (by decide) (by decide)).mono ?_
    rintro e w' ⟨rfl, rfl⟩
    rw [HK.out]
    go_wp2
    go_ret
    exact ⟨by rw [HK.out]; rfl, ext_alloc (Below.refl _ _) _⟩
/-- A copy of a cache, its list in new memory. -/
def NwC (t : Int) (xs : List Int) (w : World) (e : Ending) (w' : World) : Prop :=
  ∃ (P : Option Addr) (p : Nat), e = .returned (.agg #[.int .i64 t, .slice P xs.length p]) ∧ RwI w' w.heap.size P p xs ∧ Below w.heap.size w w'
set_option maxHeartbeats 1000000 in
theorem toC_any (t : Int) (A : Option Addr) (c : Nat) (xs : List Int) (w : World) (h : SlI w A c xs) (hl : xs.length ≤ 1048576) :
    Calls Try.prog 10 #[.agg #[.int .i64 t, .slice A xs.length c]] w (NwC t xs w) := by
  obtain ⟨W0, hW0⟩ : ∃ W0, W0 = ((w.alloc (.cells #[.int .i64 t, .slice A xs.length c] 24)).alloc (.cells #[.int .i64 0, .slice none 0 0] 27)).alloc (.cells #[.int .i64 t, .slice none 0 0] 27) := ⟨_, rfl⟩
  have hb0 : Below w.heap.size w W0 := by rw [hW0]; exact ext_alloc (ext_alloc (ext_alloc (Below.refl _ _) _) _) _
  have bR : Cx 27 W0 (w.heap.size + 1) (.int .i64 0) (.slice none 0 0) := by
    have := (Cx.new (e := 27) (w.alloc (.cells #[.int .i64 t, .slice A xs.length c] 24)) (.int .i64 0) (.slice none 0 0)).alloc (.cells #[.int .i64 t, .slice none 0 0] 27)
    rw [World.size_alloc] at this
    rw [hW0]
    exact this
  have bS : Cx 27 W0 (w.heap.size + 1 + 1) (.int .i64 t) (.slice none 0 0) := by
    have := Cx.new (e := 27) ((w.alloc (.cells #[.int .i64 t, .slice A xs.length c] 24)).alloc (.cells #[.int .i64 0, .slice none 0 0] 27)) (.int .i64 t) (.slice none 0 0)
    rw [World.size_alloc, World.size_alloc] at this
    rw [hW0]
    exact this
  have hW2 : w.heap.size + 3 ≤ W0.heap.size := by rw [hW0]; simp
  have H0 := hd (And.intro bR bS)
  have s0 := h.ext hb0
  have HB0 := hd hb0
  clear bR bS hb0 h
  go_enter Try.func10, Try.ntmps10
  go_wp2_with fail
  rw [← hW0]
  clear hW0
  refine (toIS_any A c xs W0 s0 hl).mono ?_
  rintro e w1 ⟨P, p, rfl, rP, hx⟩
  have bS := H0.out.2.ext hx
  have bR := H0.out.1.ext hx
  have c0 := bS.c0
  have c1 := bS.c1
  have e0 := bS.free 1
  have d0 := bR.c0
  have d1 := bR.c1
  have g0 := bR.free 0
  have g1 := bR.free 1
  have hz1 := hx.size
  have HF := hd (And.intro (RwI.cput1 (i := 1) (a := .slice P xs.length p) rP bS (by decide)) ((HB0.out.trans (hx.mono HB0.out.size)).grown (set1g w1 (w.heap.size + 1 + 1) 1 (.slice P xs.length p)) (by omega) (fun k e => by injection e with e; omega)))
  clear bS bR rP hx s0
  go_wp2
  refine bodyPost_ret (v := .agg #[.int .i64 t, .slice P xs.length p]) (by simp [results, Try.results10, go_sem, d0, d1]) rfl ?_
  exact ⟨P, p, rfl, (Rw.apart HF.out.1 (set2g _ (w.heap.size + 1) _ _) (fun j hj e => by injection e with e; have := (Rw.row HF.out.1 j hj).1; omega)).low (by omega), cset2_old HF.out.2 (by omega)⟩
set_option maxHeartbeats 1000000 in
theorem eqC_same (t : Int) (A : Option Addr) (c : Nat) (xs : List Int) (A' : Option Addr) (c' : Nat) (w : World) (h : SlI w A c xs) (k : SlI w A' c' xs) :
    Calls Try.prog 12 #[.agg #[.int .i64 t, .slice A xs.length c], .agg #[.int .i64 t, .slice A' xs.length c']] w fun e w' => e = .returned (.bool true) ∧ Below w.heap.size w w' := by
  obtain ⟨W0, hW0⟩ : ∃ W0, W0 = (w.alloc (.cells #[.int .i64 t, .slice A xs.length c] 27)).alloc (.cells #[.int .i64 t, .slice A' xs.length c'] 27) := ⟨_, rfl⟩
  have hb0 : Below w.heap.size w W0 := by rw [hW0]; exact ext_alloc (ext_alloc (Below.refl _ _) _) _
  have bA : Cx 27 W0 w.heap.size (.int .i64 t) (.slice A xs.length c) := by rw [hW0]; exact (Cx.new w _ _).alloc _
  have bR : Cx 27 W0 (w.heap.size + 1) (.int .i64 t) (.slice A' xs.length c') := by
    have := Cx.new (e := 27) (w.alloc (.cells #[.int .i64 t, .slice A xs.length c] 27)) (.int .i64 t) (.slice A' xs.length c')
    rw [World.size_alloc] at this
    rw [hW0]
    exact this
  have HB0 := hd hb0
  have s1 := h.ext hb0
  have s2 := k.ext hb0
  have S1 := hd (sameI_self xs)
  have gt : (t != t) = false := by simp
  have c0 := bA.c0
  have d0 := bR.c0
  have c1 := bA.c1
  have d1 := bR.c1
  clear bA bR hb0 h k
  go_enter Try.func12, Try.ntmps12
  go_wp2_with fail
  rw [← hW0]
  clear hW0
  refine (eqIS_any _ _ _ _ _ _ _ s1 s2).mono ?_
  rintro e w1 ⟨rfl, hx⟩
  rw [S1.out]
  go_wp2
  go_ret
  exact ⟨rfl, HB0.out.trans (hx.mono HB0.out.size)⟩
set_option maxHeartbeats 1000000 in
theorem mkC_any (B0 : Nat) (t : Int) (A : Option Addr) (c : Nat) (xs : List Int) (k k1 : Nat) (kz : Int) (w : World) (hkz : kz = (k : Int)) (e1 : k1 = k + xs.length) (hk : k1 ≤ 4611686018427387904) (h : RwI w B0 A c xs) :
    Calls Try.prog 15 #[.agg #[.int .i64 t, .slice A xs.length c], .int .i64 kz] w fun e w' => e = .returned (.int .i64 (k1 : Int)) ∧ RwI w' B0 A c (mkI xs.length k) ∧ ∃ wa, Below w.heap.size w wa ∧ wa.grownBy w' (rowOf A xs.length) := by
  subst hkz e1
  have hb0 : Below w.heap.size w (w.alloc (.cells #[.int .i64 t, .slice A xs.length c] 27)) := ext_alloc (Below.refl _ _) _
  have r := h.ext hb0
  have HB := hd hb0
  clear hb0 h
  go_enter Try.func15, Try.ntmps15
  go_wp2_with fail
  refine (markIS_any B0 A c xs k _ r hk).mono ?_
  rintro e w1 ⟨rfl, m1, g1⟩
  have FIN := hd (And.intro m1 g1)
  clear m1 g1 r
  go_wp2
  go_ret
  exact ⟨rfl, FIN.out.1, _, HB.out, FIN.out.2⟩
set_option maxHeartbeats 1000000 in
theorem hdC_any (t : Int) (A : Option Addr) (n c : Nat) (k k1 : Nat) (kz : Int) (w : World) (hkz : kz = (k : Int)) (e1 : k1 = k + n) (hk : k1 ≤ 4611686018427387904) (h : SlI w A c (mkI n k)) :
    Calls Try.prog 16 #[.agg #[.int .i64 t, .slice A n c], .int .i64 kz] w fun e w' => e = .returned (.int .i64 (k1 : Int)) ∧ Below w.heap.size w w' := by
  subst hkz
  have hb0 : Below w.heap.size w (w.alloc (.cells #[.int .i64 t, .slice A n c] 27)) := ext_alloc (Below.refl _ _) _
  have r := h.ext hb0
  have HB := hd hb0
  have l1 : k + n ≤ 4611686018427387904 := by omega
  have E1 := hd e1
  clear hb0 h e1
  go_enter Try.func16, Try.ntmps16
  go_wp2_with fail
  refine (heldIS_any A n c k _ r l1).mono ?_
  rintro e w1 ⟨rfl, rfl⟩
  rw [← E1.out]
  go_wp2
  go_ret
  exact ⟨rfl, HB.out⟩
theorem slI_mkc {w : World} {A : Option Addr} {c n k : Nat} (h : Sl w 1 A n c (ci (mkI n k))) : SlI w A c (mkI n k) := by
  unfold SlI; rw [mkI_len]; exact h
end Go.Proofs.Ytjhhacmfhancpaa
