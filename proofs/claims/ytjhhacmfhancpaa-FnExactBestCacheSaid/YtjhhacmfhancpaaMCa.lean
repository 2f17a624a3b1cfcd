/- Boxes of two cells: caches. -/
import Derived.Test.YtjhhacmfhancpaaWI
namespace Go.Proofs.Ytjhhacmfhancpaa
open Go.RowKit
/-- A cache in a block of its own. -/
def Cx (e : TypeId) (w : World) (g : Nat) (u v : Value) : Prop := w.heap[g]? = some (.cells #[u, v] e (0, 0))
section
variable {e : TypeId} {w w' : World} {g : Nat} {u v : Value}
theorem Cx.lt (h : Cx e w g u v) : g < w.heap.size := lt_of_block h
theorem Cx.c0 (h : Cx e w g u v) : w.cell? ⟨g, 0, none⟩ = some u := by rw [cell_of_row _ _ _ _ _ _ h]; rfl
theorem Cx.c1 (h : Cx e w g u v) : w.cell? ⟨g, 1, none⟩ = some v := by rw [cell_of_row _ _ _ _ _ _ h]; rfl
theorem Cx.ext (h : Cx e w g u v) (hb : Below w.heap.size w w') : Cx e w' g u v := (hb.block g h.lt).trans h
theorem Cx.new (w : World) (u v : Value) : Cx e (w.alloc (.cells #[u, v] e)) w.heap.size u v := heap_alloc_new w _
theorem Cx.alloc (h : Cx e w g u v) (o : Obj) : Cx e (w.alloc o) g u v := (Below.heap_alloc w o g h.lt).trans h
theorem Cx.free (h : Cx e w g u v) (i : Nat) : w.frozen? ⟨g, i, none⟩ = false := by unfold Cx at h; simp [World.frozen?, h]
theorem Cx.put0 {a : Value} (h : Cx e w g u v) : Cx e (w.setCell ⟨g, 0, none⟩ a) g a v := by unfold Cx at h ⊢; simp [World.setCell, Array.getElem?_modify, h]
theorem Cx.put1 {a : Value} (h : Cx e w g u v) : Cx e (w.setCell ⟨g, 1, none⟩ a) g u a := by unfold Cx at h ⊢; simp [World.setCell, Array.getElem?_modify, h]
theorem Cx.put2 {a b : Value} (h : Cx e w g u v) : Cx e ((w.setCell ⟨g, 0, none⟩ a).setCell ⟨g, 1, none⟩ b) g a b := h.put0.put1
theorem Cx.far {row : Option Nat} (h : Cx e w g u v) (hg : w.grownBy w' row) (hne : row ≠ some g) : Cx e w' g u v := (hg.block g h.lt (fun e => hne e.symm)).trans h
end
theorem set1g (w : World) (g i : Nat) (a : Value) : w.grownBy (w.setCell ⟨g, i, none⟩ a) (some g) :=
  ⟨rfl, rfl, rfl, by rw [setCell_size]; exact Nat.le_refl _, fun k _ hne => Below.heap_setCell w ⟨g, i, none⟩ a k (fun e => hne (by rw [e]))⟩
theorem set2g (w : World) (g : Nat) (a b : Value) : w.grownBy ((w.setCell ⟨g, 0, none⟩ a).setCell ⟨g, 1, none⟩ b) (some g) := grown_same (set1g w g 0 a) (set1g _ g 1 b)
/-- A box of another type and new numbers never meet. -/
theorem cx_ne_row {e : TypeId} {w : World} {g B n c : Nat} {u v : Value} {A : Option Addr} {us : List Value} (h : Cx e w g u v) (hr : Rw w B 3 1 A n c us) (he : 3 ≠ e) : ∀ q, rowOf A n = some q → q ≠ g := fun q hq e' => by
  subst e'
  unfold rowOf at hq
  split at hq
  · cases hq
  · obtain ⟨g', cur, e1, _, e3⟩ := hr.2 (by omega)
    subst e1
    injection hq with hq
    have hq : g' = q := hq
    subst hq
    unfold Cx at h
    rw [e3] at h
    injection h with h
    injection h with _ h
    exact he h
theorem RwI.cput2 {e : TypeId} {w : World} {B g c : Nat} {A : Option Addr} {us : List Int} {u v a b : Value} (h : RwI w B A c us) (bx : Cx e w g u v) (he : 3 ≠ e) : RwI ((w.setCell ⟨g, 0, none⟩ a).setCell ⟨g, 1, none⟩ b) B A c us :=
  Rw.apart h (set2g w g a b) (fun q hq e' => by injection e' with e'; exact cx_ne_row bx h he q hq e'.symm)
theorem RwI.cput1 {e : TypeId} {w : World} {B g i c : Nat} {A : Option Addr} {us : List Int} {u v a : Value} (h : RwI w B A c us) (bx : Cx e w g u v) (he : 3 ≠ e) : RwI (w.setCell ⟨g, i, none⟩ a) B A c us :=
  Rw.apart h (set1g w g i a) (fun q hq e' => by injection e' with e'; exact cx_ne_row bx h he q hq e'.symm)
/-- What is stored into the result's own block. -/
theorem cset2_old {w X : World} {r : Nat} {a b : Value} (h : Below w.heap.size w X) (hr : w.heap.size ≤ r) : Below w.heap.size w ((X.setCell ⟨r, 0, none⟩ a).setCell ⟨r, 1, none⟩ b) := h.grown (set2g X r a b) h.size (fun k e => by injection e with e; omega)
theorem SlI.cput2 {w : World} {g c : Nat} {A : Option Addr} {us : List Int} {a b : Value} (h : SlI w A c us) (hA : ∀ j, rowOf A us.length = some j → j ≠ g) : SlI ((w.setCell ⟨g, 0, none⟩ a).setCell ⟨g, 1, none⟩ b) A c us :=
  Sl.apart h (set2g w g a b) (fun j hj e => by injection e with e; exact hA j hj e.symm)
theorem SlI.atC {w : World} {ad : Addr} {c : Nat} {xs : List Int} (h : SlI w (some ad) c xs) {i : Nat} (hi : i < xs.length) : w.cell? (ad.add i) = some (.int .i64 xs[i]) := h.at1 hi
end Go.Proofs.Ytjhhacmfhancpaa
