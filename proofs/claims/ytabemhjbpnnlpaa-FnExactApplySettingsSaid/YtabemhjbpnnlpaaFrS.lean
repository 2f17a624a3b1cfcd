/- How a []laws.Setting that came in is opened for the walk. -/
import Derived.Test.YtabemhjbpnnlpaaMem
import Derived.Test.YtabemhjbpnnlpaaW1
import Derived.ProofKit
import Derived.OpenShut
import Derived.ShutString
import Derived.ChangeOld
import Derived.Deep.Slices
import Derived.Deep.Fields
import Derived.ChangeSame
namespace Go.Proofs.Ytabemhjbpnnlpaa
open Go.ChangeShapes Go.WideShapes Go.ChangeAt Go.RowKit Go.Deep
theorem cells2 (xs : List St) (i j : Nat) (hj : j < 2) (v : Value) (h : (cst xs)[i * 2 + j]? = some v) : i < xs.length := by
  have := List.getElem?_eq_some_iff.1 h
  obtain ⟨hl, _⟩ := this
  rw [cst_length] at hl
  omega
theorem cst_cell {w : World} {ad : Addr} {n : Nat} {xs : List St} (hn : xs.length = n)
    (hc : ∀ i, i < n → ∃ h : i < xs.length, w.cell? (ad.add (i * 2 + 0)) = some (.int .i64 xs[i].1) ∧ w.cell? (ad.add (i * 2 + 1)) = some (.int .i64 xs[i].2)) :
    ∀ j u, (cst xs)[j]? = some u → w.cell? (ad.add j) = some u := by
  intro j u hu
  have hj : j = j / 2 * 2 + j % 2 := by omega
  have h3 : j % 2 < 2 := Nat.mod_lt _ (by omega)
  generalize j / 2 = i at hj
  generalize j % 2 = r at hj h3
  subst hj
  have hi := cells2 xs i r h3 u hu
  obtain ⟨_, h0, h1⟩ := hc i (by omega)
  have e0 := cst_at0 xs i hi
  have e1 := cst_at1 xs i hi
  match r, h3 with
  | 0, _ => rw [Nat.add_zero] at hu; rw [e0] at hu; injection hu with hu; rw [← hu]; exact h0
  | 1, _ => rw [e1] at hu; injection hu with hu; rw [← hu]; exact h1
theorem slS_of {H : Type} {enc : TypeId × Value → H} {W : World} {a0 : Option Addr} {n c : Nat} {x : DataW H × List MemPlace} {fuel : Nat}
    (hf : DataW.trod enc Try.prog W 0 (fun _ => true) true fuel 27 [.slice a0 n c] = some x) : ∃ xs : List St, n = xs.length ∧ SlS W a0 c xs := by
  rcases open_slice Try.underlying27 hf with ⟨hcs, _⟩ | ⟨a, len, cap, m, q, D, Pl, hcs, _, hl, hm, hmm, _, hi⟩
  · simp at hcs
    obtain ⟨rfl, rfl, rfl⟩ := hcs
    exact ⟨[], rfl, by simp [cst], Nat.le_refl _, Nat.zero_le _, fun h => absurd h (by simp)⟩
  · simp at hcs
    obtain ⟨rfl, rfl, rfl⟩ := hcs
    have hmn : n ≤ m := by rw [hmm]; split <;> omega
    have hC : Try.prog.cellsOf 52 = 2 := by kernel_rfl
    rw [hC] at hi
    obtain ⟨f, hf2⟩ := choose_lt (α := St) (n := n) (p := fun i s => W.cell? (a.add (i * 2 + 0)) = some (.int .i64 s.1) ∧ W.cell? (a.add (i * 2 + 1)) = some (.int .i64 s.2)) (fun i hin => by
      obtain ⟨cs', h1, h2⟩ := hi i (by omega)
      obtain ⟨_, hcl, hat⟩ := World.cells?_some h1
      obtain ⟨ys, q', hq, hy, hlen, hyl, hfs⟩ := DataW.trod_struct Try.underlying52 h2
      match cs', hcl with
      | [u0, u1], _ =>
        have g0 := hfs 0 _ rfl
        have g1 := hfs 1 _ rfl
        have hyl : ys.length = 2 := hyl
        match ys, hyl with
        | [y0, y1], _ =>
          obtain ⟨z0, e0, _⟩ := DataW.trod_int Try.underlying3 (show DataW.trod enc Try.prog W 0 (fun _ => true) true q' 3 [u0] = some y0 from g0)
          obtain ⟨z1, e1, _⟩ := DataW.trod_int Try.underlying3 (show DataW.trod enc Try.prog W 0 (fun _ => true) true q' 3 [u1] = some y1 from g1)
          injection e0 with e0
          injection e1 with e1
          subst e0 e1
          exact ⟨(z0, z1), by rw [← Go.Deep.add_add]; exact hat 0 (by omega), by rw [← Go.Deep.add_add]; exact hat 1 (by omega)⟩)
    refine ⟨(List.range n).map f, by simp, by simp [cst_length], by simpa using hl, hm, fun h0 => ⟨a, rfl, ?_, ?_⟩⟩
    · have h0 : 0 < n := by simpa using h0
      have := World.block_lt_of_cell? W _ (hf2 0 h0).1
      rwa [blk_add] at this
    · refine cst_cell (n := n) (by simp) fun i hin => ⟨by simpa using hin, ?_⟩
      have := hf2 i hin
      simpa using this
end Go.Proofs.Ytabemhjbpnnlpaa
