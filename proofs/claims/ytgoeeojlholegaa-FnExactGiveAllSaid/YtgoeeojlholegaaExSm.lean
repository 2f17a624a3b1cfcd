/- The exact laws' small functions over shares: marks. -/
import Derived.Test.YtgoeeojlholegaaExSh
namespace Go.Proofs.Ytgoeeojlholegaa
open Go.RowKit
/-- New memory, and two rows written. -/
def Chg2 (w w' : World) (r1 r2 : Option Nat) : Prop := ∃ wa wb, Below w.heap.size w wa ∧ wa.grownBy wb r1 ∧ wb.grownBy w' r2
theorem Chg2.size {w w' : World} {r1 r2 : Option Nat} (h : Chg2 w w' r1 r2) : w.heap.size ≤ w'.heap.size := by
  obtain ⟨wa, wb, b, g1, g2⟩ := h
  exact Nat.le_trans b.size (Nat.le_trans g1.size g2.size)
theorem Chg2.below {w w' : World} {r1 r2 : Option Nat} {B : Nat} (h : Chg2 w w' r1 r2) (hB : B ≤ w.heap.size) (h1 : ∀ g, r1 = some g → B ≤ g) (h2 : ∀ g, r2 = some g → B ≤ g) : Below B w w' := by
  obtain ⟨wa, wb, b, g1, g2⟩ := h
  have b1 := (b.mono hB).grown g1 (Nat.le_trans hB b.size) h1
  exact b1.grown g2 (Nat.le_trans hB (Nat.le_trans b.size g1.size)) h2
theorem Chg2.rw {w w' : World} {r1 r2 : Option Nat} {B c : Nat} {A : Option Addr} {us : List Int} (h : Chg2 w w' r1 r2) (hr : RwI w B A c us) (h1 : ∀ g, rowOf A us.length = some g → r1 ≠ some g ∧ r2 ≠ some g) : RwI w' B A c us := by
  obtain ⟨wa, wb, b, g1, g2⟩ := h
  exact Rw.apart (Rw.apart (hr.ext b) g1 (fun g hg => (h1 g hg).1)) g2 (fun g hg => (h1 g hg).2)
theorem Chg2.bt {w w' : World} {r1 r2 : Option Nat} {e : TypeId} {g : Nat} {u v x : Value} (h : Chg2 w w' r1 r2) (hr : Bt e w g u v x) (h1 : r1 ≠ some g) (h2 : r2 ≠ some g) : Bt e w' g u v x := by
  obtain ⟨wa, wb, b, g1, g2⟩ := h
  have l1 : g < wa.heap.size := Nat.lt_of_lt_of_le hr.lt b.size
  exact (g2.block g (Nat.lt_of_lt_of_le l1 g1.size) (fun e => h2 e.symm)).trans ((g1.block g l1 (fun e => h1 e.symm)).trans (hr.ext b))
set_option maxHeartbeats 1000000 in
theorem mkSh_any (B0 : Nat) (t : Int) (A : Option Addr) (c : Nat) (xs : List Int) (B : Option Addr) (d : Nat) (ys : List Int) (k k1 k2 : Nat) (kz : Int) (w : World) (hkz : kz = (k : Int)) (e1 : k1 = k + xs.length) (e2 : k2 = k1 + ys.length) (hk : k2 ≤ 4611686018427387904) (h : RwI w B0 A c xs) (h' : RwI w B0 B d ys) (hne : ∀ j, rowOf A xs.length = some j → rowOf B ys.length ≠ some j) :
    Calls Try.prog 19 #[.agg #[.int .i64 t, .slice A xs.length c, .slice B ys.length d], .int .i64 kz] w fun e w' => e = .returned (.int .i64 (k2 : Int)) ∧ RwI w' B0 A c (mkI xs.length k) ∧ RwI w' B0 B d (mkI ys.length k1) ∧ Chg2 w w' (rowOf A xs.length) (rowOf B ys.length) := by
  subst hkz
  obtain ⟨W0, hW0⟩ : ∃ W0, W0 = w.alloc (.cells #[.int .i64 t, .slice A xs.length c, .slice B ys.length d] 27) := ⟨_, rfl⟩
  have hb0 : Below w.heap.size w W0 := by rw [hW0]; exact ext_alloc (Below.refl _ _) _
  have bA : Bt 27 W0 w.heap.size (.int .i64 t) (.slice A xs.length c) (.slice B ys.length d) := by rw [hW0]; exact Bt.new w _ _ _
  have r := h.ext hb0
  have r' := h'.ext hb0
  have l1 : k + xs.length ≤ 4611686018427387904 := by omega
  have l2 : k1 + ys.length ≤ 4611686018427387904 := by omega
  have nr : ∀ j, rowOf A xs.length = some j → j ≠ w.heap.size := fun j hj => by have := (Rw.row h j hj).2; omega
  have c0 := bA.c0
  have c1 := bA.c1
  have c2 := bA.c2
  have E1 := hd e1
  have E2 := hd e2
  have HH := hd (And.intro hb0 (And.intro bA (And.intro hne nr)))
  have k1b : k1 ≤ 4611686018427387904 := by omega
  clear e1 e2 hb0 bA h h' hne nr
  go_enter Try.func19, Try.ntmps19
  go_wp2_with fail
  rw [← hW0]
  clear hW0
  refine (markIS_any B0 A c xs k W0 r l1).mono ?_
  rintro e w1 ⟨rfl, m1, g1⟩
  rw [← E1.out]
  have r2 : RwI w1 B0 B d ys := Rw.apart r' g1 (fun g hg e => HH.out.2.2.1 g e hg)
  have b1 : Bt 27 w1 w.heap.size (.int .i64 t) (.slice A xs.length c) (.slice B ys.length d) := (g1.block _ HH.out.2.1.lt (fun e => HH.out.2.2.2 _ e.symm rfl)).trans HH.out.2.1
  have d0 := b1.c0
  have d1 := b1.c1
  have d2 := b1.c2
  have M1 := hd (And.intro m1 g1)
  clear c0 c1 c2 r r' b1 m1 g1
  go_wp2_with fail
  refine (markIS_any B0 B d ys k1 w1 r2 l2).mono ?_
  rintro e w2 ⟨rfl, m2, g2⟩
  rw [← E2.out]
  have FIN := hd (show RwI w2 B0 A c (mkI xs.length k) ∧ RwI w2 B0 B d (mkI ys.length k1) ∧ Chg2 w w2 (rowOf A xs.length) (rowOf B ys.length) from
    ⟨Rw.apart M1.out.1 g2 (fun g hg => HH.out.2.2.1 g (by rw [mkI_len] at hg; exact hg)), m2, _, _, HH.out.1, M1.out.2, g2⟩)
  clear m2 g2 r2
  go_wp2
  go_ret
  exact ⟨rfl, FIN.out⟩
set_option maxHeartbeats 1000000 in
theorem hdSh_any (t : Int) (A : Option Addr) (n c : Nat) (B : Option Addr) (m d : Nat) (k k1 k2 : Nat) (kz : Int) (w : World) (hkz : kz = (k : Int)) (e1 : k1 = k + n) (e2 : k2 = k1 + m) (hk : k2 ≤ 4611686018427387904) (h : SlI w A c (mkI n k)) (h' : SlI w B d (mkI m k1)) :
    Calls Try.prog 20 #[.agg #[.int .i64 t, .slice A n c, .slice B m d], .int .i64 kz] w fun e w' => e = .returned (.int .i64 (k2 : Int)) ∧ Below w.heap.size w w' := by
  subst hkz
  obtain ⟨W0, hW0⟩ : ∃ W0, W0 = w.alloc (.cells #[.int .i64 t, .slice A n c, .slice B m d] 27) := ⟨_, rfl⟩
  have hb0 : Below w.heap.size w W0 := by rw [hW0]; exact ext_alloc (Below.refl _ _) _
  have bA : Bt 27 W0 w.heap.size (.int .i64 t) (.slice A n c) (.slice B m d) := by rw [hW0]; exact Bt.new w _ _ _
  have r := h.ext hb0
  have r' := h'.ext hb0
  have l1 : k + n ≤ 4611686018427387904 := by omega
  have l2 : k1 + m ≤ 4611686018427387904 := by omega
  have c0 := bA.c0
  have c1 := bA.c1
  have c2 := bA.c2
  have E1 := hd e1
  have E2 := hd e2
  have HB := hd hb0
  clear e1 e2 hb0 bA h h'
  go_enter Try.func20, Try.ntmps20
  go_wp2_with fail
  rw [← hW0]
  clear hW0
  refine (heldIS_any A n c k W0 r l1).mono ?_
  rintro e w1 ⟨rfl, rfl⟩
  rw [← E1.out]
  go_wp2_with fail
  refine (heldIS_any B m d k1 _ r' l2).mono ?_
  rintro e w2 ⟨rfl, rfl⟩
  rw [← E2.out]
  go_wp2
  go_ret
  exact ⟨rfl, HB.out⟩
/-- A share and a flag, its lists in new memory. -/
def ShG (t : Int) (us zs : List Int) (b : Bool) (w : World) (e : Ending) (w' : World) : Prop :=
  ∃ (P : Option Addr) (p : Nat) (Q : Option Addr) (q : Nat), e = .returned (.tuple #[.agg #[.int .i64 t, .slice P us.length p, .slice Q zs.length q], .bool b]) ∧ RwI w' w.heap.size P p us ∧ RwI w' w.heap.size Q q zs ∧ (∀ j, rowOf P us.length = some j → rowOf Q zs.length ≠ some j) ∧ Below w.heap.size w w'
theorem AD_len {t : Int} {xs ys zs : List Int} {o v : Int} (h : AD t xs ys o v = some zs) : zs.length = ys.length := by
  unfold AD at h
  split at h
  · injection h with h
    rw [← h]
    simp [chg]
  · cases h
theorem shG_of (t : Int) (xs ys : List Int) (o v : Int) : ∃ (t' : Int) (us zs : List Int) (b : Bool), us.length ≤ xs.length ∧ zs.length ≤ ys.length ∧ ∀ w e w', ShO (AD t xs ys o v) t xs w e w' → ShG t' us zs b w e w' := by
  cases h : AD t xs ys o v with
  | none =>
    refine ⟨0, [], [], false, Nat.zero_le _, Nat.zero_le _, fun w e w' ⟨he, hb⟩ => ⟨none, 0, none, 0, he, rwI_nil _ _ _ _ (by unfold maxLen; omega), rwI_nil _ _ _ _ (by unfold maxLen; omega), fun j hj => ?_, hb⟩⟩
    cases hj
  | some zs => exact ⟨t, xs, zs, true, Nat.le_refl _, Nat.le_of_eq (AD_len h), fun w e w' h => h⟩
end Go.Proofs.Ytgoeeojlholegaa
