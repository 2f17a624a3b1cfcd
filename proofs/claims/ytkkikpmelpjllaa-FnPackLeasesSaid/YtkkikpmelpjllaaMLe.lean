/- Leases in memory. -/
import Derived.Test.YtkkikpmelpjllaaMem2
import Derived.Test.YtkkikpmelpjllaaRows
namespace Go.Proofs.Ytkkikpmelpjllaa
open Go.RowKit
/-- Leases: Conn, Owner, From, Until. -/
abbrev Le := Int × Int × Int × Int
def cle1 (s : Le) : List Value := [.int .i64 s.1, .int .i64 s.2.1, .int .i64 s.2.2.1, .int .i64 s.2.2.2]
def cle (xs : List Le) : List Value := xs.flatMap cle1
theorem cle_cons (x : Le) (r : List Le) : cle (x :: r) = .int .i64 x.1 :: .int .i64 x.2.1 :: .int .i64 x.2.2.1 :: .int .i64 x.2.2.2 :: cle r := rfl
theorem cle_length (xs : List Le) : (cle xs).length = xs.length * 4 := by
  induction xs with
  | nil => rfl
  | cons x r ih => rw [cle_cons]; simp only [List.length_cons, ih]; omega
theorem cle_append (xs ys : List Le) : cle (xs ++ ys) = cle xs ++ cle ys := by simp [cle]
theorem cle_at (xs : List Le) (i : Nat) (h : i < xs.length) : (cle xs)[i * 4]? = some (.int .i64 xs[i].1) ∧ (cle xs)[i * 4 + 1]? = some (.int .i64 xs[i].2.1) ∧ (cle xs)[i * 4 + 2]? = some (.int .i64 xs[i].2.2.1) ∧ (cle xs)[i * 4 + 3]? = some (.int .i64 xs[i].2.2.2) := by
  induction xs generalizing i with
  | nil => simp at h
  | cons x r ih =>
    cases i with
    | zero => exact ⟨rfl, rfl, rfl, rfl⟩
    | succ i =>
      have := ih i (by simpa using h)
      rw [cle_cons, show (i + 1) * 4 = i * 4 + 1 + 1 + 1 + 1 from by omega]
      simpa only [List.getElem?_cons_succ, List.getElem_cons_succ] using this
theorem cle_take (xs : List Le) (m : Nat) : (cle xs).take (m * 4) = cle (xs.take m) := by
  induction m generalizing xs with
  | zero => simp [cle]
  | succ m ih =>
    cases xs with
    | nil => simp [cle]
    | cons x r => rw [cle_cons, show (m + 1) * 4 = m * 4 + 1 + 1 + 1 + 1 from by omega, List.take_succ_cons, List.take_succ_cons, List.take_succ_cons, List.take_succ_cons, ih]; rfl
theorem cle_one (xs : List Le) : ∀ u ∈ cle xs, u.oneCell' = true := by
  intro u hu
  simp only [cle, cle1, List.mem_flatMap] at hu
  obtain ⟨s, _, hs⟩ := hu
  simp only [List.mem_cons, List.not_mem_nil, or_false] at hs
  rcases hs with rfl | rfl | rfl | rfl <;> rfl
theorem cle_set (xs : List Le) (i : Nat) (c : Int) (h : i < xs.length) : (cle xs).set (i * 4) (.int .i64 c) = cle (xs.set i (c, xs[i].2)) := by
  induction xs generalizing i with
  | nil => simp at h
  | cons x r ih =>
    cases i with
    | zero => rfl
    | succ i =>
      have := ih i (by simpa using h)
      rw [cle_cons, show (i + 1) * 4 = i * 4 + 1 + 1 + 1 + 1 from by omega]
      simp only [List.set_cons_succ, List.getElem_cons_succ]
      rw [this]
      rfl
/-- A slice of leases. -/
def SlL (w : World) (A : Option Addr) (c : Nat) (xs : List Le) : Prop := Sl w 4 A xs.length c (cle xs)
theorem SlL.ext {w w' : World} {A : Option Addr} {c : Nat} {xs : List Le} (h : SlL w A c xs) (hb : Below w.heap.size w w') : SlL w' A c xs := Sl.ext h hb
theorem SlL.at {w : World} {A : Option Addr} {c : Nat} {xs : List Le} (h : SlL w A c xs) {i : Nat} (hi : i < xs.length) :
    ∃ ad, A = some ad ∧ ad.block < w.heap.size ∧ w.cell? (ad.add (i * 4)) = some (.int .i64 xs[i].1) ∧ w.cell? ⟨(ad.add (i * 4)).block, (ad.add (i * 4)).off + 1, none⟩ = some (.int .i64 xs[i].2.1) ∧ w.cell? ⟨(ad.add (i * 4)).block, (ad.add (i * 4)).off + 2, none⟩ = some (.int .i64 xs[i].2.2.1) ∧ w.cell? ⟨(ad.add (i * 4)).block, (ad.add (i * 4)).off + 3, none⟩ = some (.int .i64 xs[i].2.2.2) := by
  obtain ⟨ad, e, hb, hc⟩ := Sl.addr h (by omega)
  obtain ⟨h0, h1, h2, h3⟩ := cle_at xs i hi
  refine ⟨ad, e, hb, hc _ _ h0, ?_, ?_, ?_⟩
  · have := hc _ _ h1
    rw [← add_add] at this
    exact this
  · have := hc _ _ h2
    rw [← add_add] at this
    exact this
  · have := hc _ _ h3
    rw [← add_add] at this
    exact this
theorem SlL.take {w : World} {A : Option Addr} {c : Nat} {xs : List Le} (h : SlL w A c xs) {m : Nat} (hm : m ≤ xs.length) : SlL w A c (xs.take m) := by
  have := Sl.take h hm
  rw [cle_take] at this
  unfold SlL
  rwa [List.length_take, Nat.min_eq_left hm]
/-- New leases, that may be written. -/
def RwL (w : World) (B : Nat) (A : Option Addr) (c : Nat) (xs : List Le) : Prop := Rw w B 30 4 A xs.length c (cle xs)
theorem RwL.sl {w : World} {B : Nat} {A : Option Addr} {c : Nat} {xs : List Le} (h : RwL w B A c xs) : SlL w A c xs := h.1
theorem RwL.ext {w w' : World} {B : Nat} {A : Option Addr} {c : Nat} {xs : List Le} (h : RwL w B A c xs) (hb : Below w.heap.size w w') : RwL w' B A c xs := Rw.ext h hb
theorem rwL_of_own {w : World} {base n : Nat} {v : Value} {xs : List Value} {zs : List Le} (h : w.ownsRow base 30 4 v n xs) (hx : xs = cle zs) (hn : n = zs.length) :
    ∃ A c, v = .slice A zs.length c ∧ RwL w base A c zs := by
  subst hx hn
  exact Rw.of_own h
theorem eltLe : Elt Try.prog 23 30 (.agg #[.int .i64 0, .int .i64 0, .int .i64 0, .int .i64 0]) 4 32 := ⟨Try.underlying23, by kernel_rfl, rfl, by decide⟩
/-- A connection stored into new leases. -/
theorem RwL.put {w : World} {B c : Nat} {A : Option Addr} {xs : List Le} (h : RwL w B A c xs) {i : Nat} (hi : i < xs.length) :
    ∃ g, A = some ⟨g, 0, none⟩ ∧ B ≤ g ∧ g < w.heap.size ∧ (∃ u, w.cell? ⟨g, i * 4, none⟩ = some u) ∧ w.frozen? ⟨g, i * 4, none⟩ = false ∧
      ∀ v : Int, RwL (w.setCell ⟨g, i * 4, none⟩ (.int .i64 v)) B A c (xs.set i (v, xs[i].2)) ∧ w.grownBy (w.setCell ⟨g, i * 4, none⟩ (.int .i64 v)) (some g) := by
  obtain ⟨g, e, hb, hl, hp⟩ := Rw.put h (by omega)
  obtain ⟨p0, f0, s0⟩ := hp (i * 4) (by rw [cle_length]; omega)
  refine ⟨g, e, hb, hl, p0, f0, fun v => ⟨?_, (s0 (.int .i64 v)).2⟩⟩
  have := (s0 (.int .i64 v)).1
  rw [cle_set xs i v hi] at this
  unfold RwL
  rwa [List.length_set]
/-- A lease in a block of its own. -/
def Lx (w : World) (g : Nat) (x : Le) : Prop := w.heap[g]? = some (.cells #[.int .i64 x.1, .int .i64 x.2.1, .int .i64 x.2.2.1, .int .i64 x.2.2.2] 30 (0, 0))
section
variable {w w' : World} {g : Nat} {x : Le}
theorem Lx.lt (h : Lx w g x) : g < w.heap.size := lt_of_block h
theorem Lx.c0 (h : Lx w g x) : w.cell? ⟨g, 0, none⟩ = some (.int .i64 x.1) := by rw [cell_of_row _ _ _ _ _ _ h]; rfl
theorem Lx.c1 (h : Lx w g x) : w.cell? ⟨g, 1, none⟩ = some (.int .i64 x.2.1) := by rw [cell_of_row _ _ _ _ _ _ h]; rfl
theorem Lx.c2 (h : Lx w g x) : w.cell? ⟨g, 2, none⟩ = some (.int .i64 x.2.2.1) := by rw [cell_of_row _ _ _ _ _ _ h]; rfl
theorem Lx.c3 (h : Lx w g x) : w.cell? ⟨g, 3, none⟩ = some (.int .i64 x.2.2.2) := by rw [cell_of_row _ _ _ _ _ _ h]; rfl
theorem Lx.ext (h : Lx w g x) (hb : Below w.heap.size w w') : Lx w' g x := (hb.block g h.lt).trans h
theorem Lx.new (w : World) (x : Le) : Lx (w.alloc (.cells #[.int .i64 x.1, .int .i64 x.2.1, .int .i64 x.2.2.1, .int .i64 x.2.2.2] 30)) w.heap.size x := heap_alloc_new w _
theorem Lx.far {row : Option Nat} (h : Lx w g x) (hg : w.grownBy w' row) (hne : row ≠ some g) : Lx w' g x := (hg.block g h.lt (fun e => hne e.symm)).trans h
end
/-- A value in a block of its own. -/
def Vx (t : TypeId) (w : World) (g : Nat) (v : Value) : Prop := w.heap[g]? = some (.cells #[v] t (0, 0))
section
variable {t : TypeId} {w w' : World} {g : Nat} {v : Value}
theorem Vx.lt (h : Vx t w g v) : g < w.heap.size := lt_of_block h
theorem Vx.c (h : Vx t w g v) : w.cell? ⟨g, 0, none⟩ = some v := by rw [cell_of_row _ _ _ _ _ _ h]; rfl
theorem Vx.free (h : Vx t w g v) : w.frozen? ⟨g, 0, none⟩ = false := by unfold Vx at h; simp [World.frozen?, h]
theorem Vx.ext (h : Vx t w g v) (hb : Below w.heap.size w w') : Vx t w' g v := (hb.block g h.lt).trans h
theorem Vx.new (t : TypeId) (w : World) (v : Value) : Vx t (w.alloc (.cells #[v] t)) w.heap.size v := heap_alloc_new w _
theorem Vx.alloc (h : Vx t w g v) (o : Obj) : Vx t (w.alloc o) g v := (Below.heap_alloc w o g h.lt).trans h
theorem Vx.put {u : Value} (h : Vx t w g v) : Vx t (w.setCell ⟨g, 0, none⟩ u) g u := by unfold Vx at h ⊢; simp [World.setCell, Array.getElem?_modify, h]
theorem Vx.far {row : Option Nat} (h : Vx t w g v) (hg : w.grownBy w' row) (hne : row ≠ some g) : Vx t w' g v := (hg.block g h.lt (fun e => hne e.symm)).trans h
end
theorem setg (w : World) (g i : Nat) (a : Value) : w.grownBy (w.setCell ⟨g, i, none⟩ a) (some g) :=
  ⟨rfl, rfl, rfl, by rw [setCell_size]; exact Nat.le_refl _, fun k _ hne => Below.heap_setCell w ⟨g, i, none⟩ a k (fun e => hne (by rw [e]))⟩
end Go.Proofs.Ytkkikpmelpjllaa
