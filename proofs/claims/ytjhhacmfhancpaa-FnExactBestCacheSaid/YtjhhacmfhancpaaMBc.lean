/- Slices of caches in memory: an element is two cells, an int and a slice. -/
import Derived.Test.YtjhhacmfhancpaaWI
namespace Go.Proofs.Ytjhhacmfhancpaa
open Go.RowKit
/-- A cache that lies in memory: its room, its names' address, its capacity, its names. -/
abbrev Cr := Int × Option Addr × Nat × List Int
def Cr.v (r : Cr) : Value := .slice r.2.1 r.2.2.2.length r.2.2.1
def ccr (rs : List Cr) : List Value := rs.flatMap fun r => [.int .i64 r.1, r.v]
theorem ccr_length (rs : List Cr) : (ccr rs).length = rs.length * 2 := by induction rs <;> simp_all [ccr]; omega
theorem ccr_append (xs ys : List Cr) : ccr (xs ++ ys) = ccr xs ++ ccr ys := by simp [ccr]
theorem ccr_at0 (rs : List Cr) (i : Nat) (h : i < rs.length) : (ccr rs)[i * 2]? = some (.int .i64 rs[i].1) := by
  induction rs generalizing i with
  | nil => simp at h
  | cons x r ih =>
    cases i with
    | zero => rfl
    | succ i =>
      have : (ccr (x :: r)) = .int .i64 x.1 :: x.v :: ccr r := rfl
      rw [this, show (i + 1) * 2 = i * 2 + 1 + 1 from by omega, List.getElem?_cons_succ, List.getElem?_cons_succ, ih i (by simpa using h)]
      rfl
theorem ccr_at1 (rs : List Cr) (i : Nat) (h : i < rs.length) : (ccr rs)[i * 2 + 1]? = some rs[i].v := by
  induction rs generalizing i with
  | nil => simp at h
  | cons x r ih =>
    cases i with
    | zero => rfl
    | succ i =>
      have : (ccr (x :: r)) = .int .i64 x.1 :: x.v :: ccr r := rfl
      rw [this, show (i + 1) * 2 + 1 = i * 2 + 1 + 1 + 1 from by omega, List.getElem?_cons_succ, List.getElem?_cons_succ, ih i (by simpa using h)]
      rfl
theorem ccr_take (rs : List Cr) (m : Nat) : (ccr rs).take (m * 2) = ccr (rs.take m) := by
  induction m generalizing rs with
  | zero => simp [ccr]
  | succ m ih =>
    cases rs with
    | nil => simp [ccr]
    | cons x r =>
      have : (ccr (x :: r)) = .int .i64 x.1 :: x.v :: ccr r := rfl
      rw [this, show (m + 1) * 2 = m * 2 + 1 + 1 from by omega, List.take_succ_cons, List.take_succ_cons, ih]
      rfl
/-- A slice of caches. -/
def SlC (w : World) (A : Option Addr) (c : Nat) (rs : List Cr) : Prop := Sl w 2 A rs.length c (ccr rs) ∧ ∀ r ∈ rs, SlI w r.2.1 r.2.2.1 r.2.2.2
theorem SlC.ext {w w' : World} {A : Option Addr} {c : Nat} {rs : List Cr} (h : SlC w A c rs) (hb : Below w.heap.size w w') : SlC w' A c rs := ⟨h.1.ext hb, fun r hr => (h.2 r hr).ext hb⟩
theorem SlC.at {w : World} {A : Option Addr} {c : Nat} {rs : List Cr} (h : SlC w A c rs) {i : Nat} (hi : i < rs.length) :
    ∃ ad, A = some ad ∧ ad.block < w.heap.size ∧ w.cell? (ad.add (i * 2)) = some (.int .i64 rs[i].1) ∧ w.cell? ⟨(ad.add (i * 2)).block, (ad.add (i * 2)).off + 1, none⟩ = some (.slice rs[i].2.1 rs[i].2.2.2.length rs[i].2.2.1) ∧ SlI w rs[i].2.1 rs[i].2.2.1 rs[i].2.2.2 := by
  obtain ⟨ad, e, hb, hc⟩ := Sl.cells h.1 hi
  refine ⟨ad, e, hb, ?_, ?_, h.2 _ (List.getElem_mem hi)⟩
  · obtain ⟨u, hu, hw⟩ := hc 0 (by omega)
    rw [Nat.add_zero, ccr_at0 rs i hi] at hu
    rw [Nat.add_zero] at hw
    rw [hw, ← hu]
  · obtain ⟨u, hu, hw⟩ := hc 1 (by omega)
    rw [ccr_at1 rs i hi] at hu
    rw [← add_add] at hw
    have : w.cell? ⟨(ad.add (i * 2)).block, (ad.add (i * 2)).off + 1, none⟩ = some rs[i].v := by rw [hu, ← hw]; rfl
    exact this
theorem SlC.take {w : World} {A : Option Addr} {c : Nat} {rs : List Cr} (h : SlC w A c rs) {m : Nat} (hm : m ≤ rs.length) : SlC w A c (rs.take m) := by
  have := Sl.take h.1 hm
  rw [ccr_take] at this
  refine ⟨by rw [List.length_take, Nat.min_eq_left hm]; exact this, fun r hr => h.2 r (List.mem_of_mem_take hr)⟩
end Go.Proofs.Ytjhhacmfhancpaa
