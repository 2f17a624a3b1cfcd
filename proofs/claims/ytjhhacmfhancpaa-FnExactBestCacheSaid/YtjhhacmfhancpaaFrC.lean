/- How a []laws.Cache that came in is opened for the walk. -/
import Derived.Test.YtjhhacmfhancpaaMBc
import Derived.Test.YtjhhacmfhancpaaFrI
namespace Go.Proofs.Ytjhhacmfhancpaa
open Go.ChangeShapes Go.WideShapes Go.ChangeAt Go.RowKit Go.Deep
theorem cellsC (rs : List Cr) (i j : Nat) (hj : j < 2) (v : Value) (h : (ccr rs)[i * 2 + j]? = some v) : i < rs.length := by
  have := List.getElem?_eq_some_iff.1 h
  obtain ⟨hl, _⟩ := this
  rw [ccr_length] at hl
  omega
theorem ccr_cell {w : World} {ad : Addr} {n : Nat} {rs : List Cr} (hn : rs.length = n)
    (hc : ∀ i, i < n → ∃ h : i < rs.length, w.cell? (ad.add (i * 2 + 0)) = some (.int .i64 rs[i].1) ∧ w.cell? (ad.add (i * 2 + 1)) = some rs[i].v) :
    ∀ j u, (ccr rs)[j]? = some u → w.cell? (ad.add j) = some u := by
  intro j u hu
  have hj : j = j / 2 * 2 + j % 2 := by omega
  have h3 : j % 2 < 2 := Nat.mod_lt _ (by omega)
  generalize j / 2 = i at hj
  generalize j % 2 = r at hj h3
  subst hj
  have hi := cellsC rs i r h3 u hu
  obtain ⟨_, h0, h1⟩ := hc i (by omega)
  have e0 := ccr_at0 rs i hi
  have e1 := ccr_at1 rs i hi
  match r, h3 with
  | 0, _ => rw [Nat.add_zero] at hu; rw [e0] at hu; injection hu with hu; rw [← hu]; exact h0
  | 1, _ => rw [e1] at hu; injection hu with hu; rw [← hu]; exact h1
theorem slC_of {H : Type} {enc : TypeId × Value → H} {W : World} {a0 : Option Addr} {n c : Nat} {x : DataW H × List MemPlace} {fuel : Nat}
    (hf : DataW.trod enc Try.prog W 0 (fun _ => true) true fuel 39 [.slice a0 n c] = some x) : ∃ rs : List Cr, n = rs.length ∧ SlC W a0 c rs := by
  rcases open_slice Try.underlying39 hf with ⟨hcs, _⟩ | ⟨a, len, cap, m, q, D, Pl, hcs, _, hl, hm, hmm, _, hi⟩
  · simp at hcs
    obtain ⟨rfl, rfl, rfl⟩ := hcs
    exact ⟨[], rfl, ⟨by simp [ccr], Nat.le_refl _, Nat.zero_le _, fun h => absurd h (by simp)⟩, fun r hr => by simp at hr⟩
  · simp at hcs
    obtain ⟨rfl, rfl, rfl⟩ := hcs
    have hmn : n ≤ m := by rw [hmm]; split <;> omega
    have hC : Try.prog.cellsOf 24 = 2 := by kernel_rfl
    rw [hC] at hi
    obtain ⟨f, hf2⟩ := choose_lt (α := Cr) (n := n) (p := fun i s => W.cell? (a.add (i * 2 + 0)) = some (.int .i64 s.1) ∧ W.cell? (a.add (i * 2 + 1)) = some s.v ∧ SlI W s.2.1 s.2.2.1 s.2.2.2) (fun i hin => by
      obtain ⟨cs', h1, h2⟩ := hi i (by omega)
      obtain ⟨_, hcl, hat⟩ := World.cells?_some h1
      obtain ⟨ys, q', hq, hy, hlen, hyl, hfs⟩ := DataW.trod_struct Try.underlying24 h2
      match cs', hcl with
      | [u0, u1], _ =>
        have g0 := hfs 0 _ rfl
        have g1 := hfs 1 _ rfl
        have hyl : ys.length = 2 := hyl
        match ys, hyl with
        | [y0, y1], _ =>
          obtain ⟨z0, e0, _⟩ := DataW.trod_int Try.underlying3 (show DataW.trod enc Try.prog W 0 (fun _ => true) true q' 3 [u0] = some y0 from g0)
          obtain ⟨a1, c1, xs1, e1, s1⟩ := slI_val (show DataW.trod enc Try.prog W 0 (fun _ => true) true q' 22 [u1] = some y1 from g1)
          injection e0 with e0
          subst e0 e1
          exact ⟨(z0, a1, c1, xs1), by rw [← Go.Deep.add_add]; exact hat 0 (by omega), by rw [← Go.Deep.add_add]; exact hat 1 (by omega), s1⟩)
    refine ⟨(List.range n).map f, by simp, ⟨by simp [ccr_length], by simpa using hl, hm, fun h0 => ⟨a, rfl, ?_, ?_⟩⟩, fun r hr => ?_⟩
    · have h0 : 0 < n := by simpa using h0
      have := World.block_lt_of_cell? W _ (hf2 0 h0).1
      rwa [blk_add] at this
    · refine ccr_cell (n := n) (by simp) fun i hin => ⟨by simpa using hin, ?_⟩
      have := hf2 i hin
      exact ⟨by simpa using this.1, by simpa using this.2.1⟩
    · obtain ⟨i, hin, rfl⟩ := List.mem_map.1 hr
      exact (hf2 i (List.mem_range.1 hin)).2.2
end Go.Proofs.Ytjhhacmfhancpaa
