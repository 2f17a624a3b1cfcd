/- How a []int that came in is opened for the walk. -/
import Derived.Test.YtjhhacmfhancpaaWI
import Derived.ProofKit
import Derived.OpenShut
import Derived.ShutString
import Derived.ChangeOld
import Derived.Deep.Slices
import Derived.Deep.Fields
import Derived.ChangeSame
import Derived.Lib.SmallJoins
namespace Go.Proofs.Ytjhhacmfhancpaa
open Go.ChangeShapes Go.WideShapes Go.ChangeAt Go.RowKit Go.Deep
theorem ci_cell {w : World} {ad : Addr} {xs : List Int} (hc : ∀ i, (h : i < xs.length) → w.cell? (ad.add i) = some (.int .i64 xs[i])) :
    ∀ j u, (ci xs)[j]? = some u → w.cell? (ad.add j) = some u := by
  intro j u hu
  have hl : j < xs.length := by
    have := (List.getElem?_eq_some_iff.1 hu).1
    rwa [ci_length] at this
  rw [hc j hl]
  simp [ci, hl] at hu
  rw [hu]
theorem slI_val {H : Type} {enc : TypeId × Value → H} {W : World} {v : Value} {x : DataW H × List MemPlace} {fuel : Nat}
    (hf : DataW.trod enc Try.prog W 0 (fun _ => true) true fuel 22 [v] = some x) : ∃ (a : Option Addr) (c : Nat) (xs : List Int), v = .slice a xs.length c ∧ SlI W a c xs := by
  rcases open_slice1 Try.underlying22 (by kernel_rfl) hf with ⟨hcs, _⟩ | ⟨a, len, cap, m, q, V, D, Pl, hcs, _, hl, hm, hmm, _, hi⟩
  · injection hcs with hcs
    subst hcs
    exact ⟨none, 0, [], rfl, by simp [ci], Nat.le_refl _, Nat.zero_le _, fun h => absurd h (by simp)⟩
  · injection hcs with hcs
    subst hcs
    have hmn : len ≤ m := by rw [hmm]; split <;> omega
    obtain ⟨f, hf2⟩ := choose_lt (α := Int) (n := len) (p := fun i s => W.cell? (a.add i) = some (.int .i64 s)) (fun i hin => by
      obtain ⟨h1, h2⟩ := hi i (by omega)
      obtain ⟨z0, e0, _⟩ := DataW.trod_int Try.underlying3 h2
      injection e0 with e0
      rw [e0] at h1
      exact ⟨z0, h1⟩)
    refine ⟨some a, cap, (List.range len).map f, by simp, by simp [ci], by simpa using hl, hm, fun h0 => ⟨a, rfl, ?_, ?_⟩⟩
    · have h0 : 0 < len := by simpa using h0
      have := World.block_lt_of_cell? W _ (hf2 0 h0)
      rwa [blk_add] at this
    · refine ci_cell fun i hin => ?_
      have := hf2 i (by simpa using hin)
      simpa using this
theorem slI_of {H : Type} {enc : TypeId × Value → H} {W : World} {a0 : Option Addr} {n c : Nat} {x : DataW H × List MemPlace} {fuel : Nat}
    (hf : DataW.trod enc Try.prog W 0 (fun _ => true) true fuel 22 [.slice a0 n c] = some x) : ∃ xs : List Int, n = xs.length ∧ SlI W a0 c xs := by
  obtain ⟨a, c', xs, e, h⟩ := slI_val hf
  injection e with e1 e2 e3
  subst e1 e2 e3
  exact ⟨xs, rfl, h⟩
end Go.Proofs.Ytjhhacmfhancpaa
