/- Contracts of slices.Delete, slices.Index, slices.Contains over numbers. -/
import Derived.Test.YtmenknnncjbbpaaWI
import Derived.Deep.RegionLaw
import Derived.Lib.SliceRun
import Derived.Lib.SlicesDelete
namespace Go.Proofs.Ytmenknnncjbbpaa
open Go.RowKit Go.Lib Go.Sort
/-- New numbers as the cells of their block. -/
theorem RwI.holds {w : World} {B : Nat} {A : Option Addr} {c : Nat} {xs : List Int} (h : RwI w B A c xs) (h0 : 0 < xs.length) :
    ∃ g cur, A = some ⟨g, 0, none⟩ ∧ B ≤ g ∧ w.heap[g]? = some (.cells cur 3 (0, 0)) ∧ Holds (Value.int .i64) w g 0 xs.toArray := by
  obtain ⟨g, cur, e, hb, hg⟩ := h.2 h0
  subst e
  refine ⟨g, cur, rfl, hb, hg, fun j hj => ⟨?_, by simp [World.frozen?, hg]⟩⟩
  have hj' : j < xs.length := by simpa using hj
  have h1 := SlI.at1 h.sl hj'
  have e0 : (⟨g, 0, none⟩ : Addr).add j = ⟨g, j, none⟩ := by unfold Addr.add; split <;> simp_all
  rw [e0] at h1
  rw [Nat.zero_add, h1, getElem!_pos xs.toArray j hj]
  rfl
theorem putRow_block {w : World} {g : Nat} {cur : Array Value} {e : TypeId} (hg : w.heap[g]? = some (.cells cur e (0, 0))) (q : Nat) (d : Array Int) :
    (putRow (Value.int .i64) (Sort.ahead w q) g 0 d).heap[g]? = some (.cells (putCells (Value.int .i64) 0 d cur) e (0, 0)) := by
  simp [putRow, mapBlock, Sort.ahead, Array.getElem?_modify, hg, onCells]
theorem putRow_grown (w : World) (g q : Nat) (d : Array Int) : w.grownBy (putRow (Value.int .i64) (Sort.ahead w q) g 0 d) (some g) :=
  ⟨rfl, rfl, rfl, by simp [putRow, mapBlock, Sort.ahead], fun k _ hne => by
    have : g ≠ k := fun e => hne (by rw [e])
    simp [putRow, mapBlock, Sort.ahead, Array.getElem?_modify, this]⟩
/-- The block with other numbers laid on it. -/
theorem rwI_putRow {w : World} {B g c : Nat} {cur : Array Value} {xs zs : List Int} (hg : w.heap[g]? = some (.cells cur 3 (0, 0))) (hb : B ≤ g) (hH : Holds (Value.int .i64) w g 0 xs.toArray) (hl : zs.length = xs.length) (hc : xs.length ≤ c) (hm : c ≤ maxLen) (q : Nat) :
    RwI (putRow (Value.int .i64) (Sort.ahead w q) g 0 zs.toArray) B (some ⟨g, 0, none⟩) c zs := by
  have hH2 := holds_putRow (Value.int .i64) (Sort.ahead w q) g 0 xs.toArray zs.toArray (holds_ahead (Value.int .i64) w q g 0 xs.toArray hH) (by simpa using hl)
  refine ⟨⟨by simp [ci], by omega, hm, fun _ => ⟨_, rfl, lt_of_block (putRow_block hg q zs.toArray), fun j u hu => ?_⟩⟩, fun _ => ⟨g, _, rfl, hb, putRow_block hg q zs.toArray⟩⟩
  have hj : j < zs.length := by
    have := (List.getElem?_eq_some_iff.1 hu).1
    rwa [ci_length] at this
  have e0 : (⟨g, 0, none⟩ : Addr).add j = ⟨g, j, none⟩ := by unfold Addr.add; split <;> simp_all
  have h1 := (hH2 j (by simpa using hj)).1
  rw [Nat.zero_add, getElem!_pos zs.toArray j (by simpa using hj)] at h1
  rw [e0, h1, ← hu]
  simp [ci, hj]
theorem RwI.take {w : World} {B : Nat} {A : Option Addr} {c : Nat} {xs : List Int} (h : RwI w B A c xs) {m : Nat} (hm : m ≤ xs.length) : RwI w B A c (xs.take m) := by
  refine ⟨h.sl.take hm, fun h0 => h.2 ?_⟩
  rw [List.length_take] at h0
  omega
end Go.Proofs.Ytmenknnncjbbpaa
