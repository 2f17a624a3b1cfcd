/- Hosts in memory. -/
import Derived.Test.YtbpadfeplmmeeaaMem
import Derived.Test.YtbpadfeplmmeeaaRows
namespace Go.Proofs.Ytbpadfeplmmeeaa
open Go.RowKit
/-- Hosts: Load, Lag, Down. -/
abbrev Ho := Int × Int × Bool
def cho1 (s : Ho) : List Value := [.int .i64 s.1, .int .i64 s.2.1, .bool s.2.2]
def cho (xs : List Ho) : List Value := xs.flatMap cho1
theorem cho_cons (x : Ho) (r : List Ho) : cho (x :: r) = .int .i64 x.1 :: .int .i64 x.2.1 :: .bool x.2.2 :: cho r := rfl
theorem cho_length (xs : List Ho) : (cho xs).length = xs.length * 3 := by
  induction xs with
  | nil => rfl
  | cons x r ih => rw [cho_cons]; simp only [List.length_cons, ih]; omega
theorem cho_append (xs ys : List Ho) : cho (xs ++ ys) = cho xs ++ cho ys := by simp [cho]
theorem cho_at (xs : List Ho) (i : Nat) (h : i < xs.length) : (cho xs)[i * 3]? = some (.int .i64 xs[i].1) ∧ (cho xs)[i * 3 + 1]? = some (.int .i64 xs[i].2.1) ∧ (cho xs)[i * 3 + 2]? = some (.bool xs[i].2.2) := by
  induction xs generalizing i with
  | nil => simp at h
  | cons x r ih =>
    cases i with
    | zero => exact ⟨rfl, rfl, rfl⟩
    | succ i =>
      have := ih i (by simpa using h)
      rw [cho_cons, show (i + 1) * 3 = i * 3 + 1 + 1 + 1 from by omega]
      simpa only [List.getElem?_cons_succ, List.getElem_cons_succ] using this
theorem cho_take (xs : List Ho) (m : Nat) : (cho xs).take (m * 3) = cho (xs.take m) := by
  induction m generalizing xs with
  | zero => simp [cho]
  | succ m ih =>
    cases xs with
    | nil => simp [cho]
    | cons x r => rw [cho_cons, show (m + 1) * 3 = m * 3 + 1 + 1 + 1 from by omega, List.take_succ_cons, List.take_succ_cons, List.take_succ_cons, ih]; rfl
theorem cho_drop (xs : List Ho) (m : Nat) : (cho xs).drop (m * 3) = cho (xs.drop m) := by
  induction m generalizing xs with
  | zero => simp
  | succ m ih =>
    cases xs with
    | nil => simp [cho]
    | cons x r => rw [cho_cons, show (m + 1) * 3 = m * 3 + 1 + 1 + 1 from by omega, List.drop_succ_cons, List.drop_succ_cons, List.drop_succ_cons, ih]; rfl
theorem cho_one (xs : List Ho) : ∀ u ∈ cho xs, u.oneCell' = true := by
  intro u hu
  simp only [cho, cho1, List.mem_flatMap] at hu
  obtain ⟨s, _, hs⟩ := hu
  simp only [List.mem_cons, List.not_mem_nil, or_false] at hs
  rcases hs with rfl | rfl | rfl <;> rfl
/-- A slice of hosts. -/
def SlH (w : World) (A : Option Addr) (c : Nat) (xs : List Ho) : Prop := Sl w 3 A xs.length c (cho xs)
theorem SlH.ext {w w' : World} {A : Option Addr} {c : Nat} {xs : List Ho} (h : SlH w A c xs) (hb : Below w.heap.size w w') : SlH w' A c xs := Sl.ext h hb
theorem SlH.at {w : World} {A : Option Addr} {c : Nat} {xs : List Ho} (h : SlH w A c xs) {i : Nat} (hi : i < xs.length) :
    ∃ ad, A = some ad ∧ ad.block < w.heap.size ∧ w.cell? (ad.add (i * 3)) = some (.int .i64 xs[i].1) ∧ w.cell? ⟨(ad.add (i * 3)).block, (ad.add (i * 3)).off + 1, none⟩ = some (.int .i64 xs[i].2.1) ∧ w.cell? ⟨(ad.add (i * 3)).block, (ad.add (i * 3)).off + 2, none⟩ = some (.bool xs[i].2.2) := by
  obtain ⟨ad, e, hb, hc⟩ := Sl.addr h (by omega)
  obtain ⟨h0, h1, h2⟩ := cho_at xs i hi
  refine ⟨ad, e, hb, hc _ _ h0, ?_, ?_⟩
  · have := hc _ _ h1
    rw [← add_add] at this
    exact this
  · have := hc _ _ h2
    rw [← add_add] at this
    exact this
theorem SlH.at0 {w : World} {A : Option Addr} {c : Nat} {xs : List Ho} (h : SlH w A c xs) (hi : 0 < xs.length) :
    ∃ ad, A = some ad ∧ ad.block < w.heap.size ∧ w.cell? ad = some (.int .i64 xs[0].1) ∧ w.cell? ⟨ad.block, ad.off + 1, none⟩ = some (.int .i64 xs[0].2.1) ∧ w.cell? ⟨ad.block, ad.off + 2, none⟩ = some (.bool xs[0].2.2) := h.at hi
theorem SlH.take {w : World} {A : Option Addr} {c : Nat} {xs : List Ho} (h : SlH w A c xs) {m : Nat} (hm : m ≤ xs.length) : SlH w A c (xs.take m) := by
  have := Sl.take h hm
  rw [cho_take] at this
  unfold SlH
  rwa [List.length_take, Nat.min_eq_left hm]
theorem slH_of_own {w : World} {base n : Nat} {e : TypeId} {v : Value} {xs : List Value} {zs : List Ho} (h : w.ownsRow base e 3 v n xs) (hx : xs = cho zs) (hn : n = zs.length) :
    ∃ A c, v = .slice A zs.length c ∧ SlH w A c zs ∧ (∀ ad, A = some ad → base ≤ ad.block) := by
  subst hx hn
  exact Sl.of_own h
/-- New hosts, that may be written. -/
def RwH (w : World) (B : Nat) (e : TypeId) (A : Option Addr) (c : Nat) (xs : List Ho) : Prop := Rw w B e 3 A xs.length c (cho xs)
theorem RwH.sl {w : World} {B : Nat} {e : TypeId} {A : Option Addr} {c : Nat} {xs : List Ho} (h : RwH w B e A c xs) : SlH w A c xs := h.1
theorem rwH_of_own {w : World} {base n : Nat} {e : TypeId} {v : Value} {xs : List Value} {zs : List Ho} (h : w.ownsRow base e 3 v n xs) (hx : xs = cho zs) (hn : n = zs.length) :
    ∃ A c, v = .slice A zs.length c ∧ RwH w base e A c zs := by
  subst hx hn
  exact Rw.of_own h
theorem eltH : Elt Try.prog 23 30 (.agg #[.int .i64 0, .int .i64 0, .bool false]) 3 24 := ⟨Try.underlying23, by kernel_rfl, rfl, by decide⟩
theorem cho_set (xs : List Ho) (i : Nat) (s : Ho) (h : i < xs.length) : (((cho xs).set (i * 3) (.int .i64 s.1)).set (i * 3 + 1) (.int .i64 s.2.1)).set (i * 3 + 2) (.bool s.2.2) = cho (xs.set i s) := by
  induction xs generalizing i with
  | nil => simp at h
  | cons x r ih =>
    cases i with
    | zero => rfl
    | succ i =>
      have := ih i (by simpa using h)
      rw [cho_cons, show (i + 1) * 3 = i * 3 + 1 + 1 + 1 from by omega]
      simp only [List.set_cons_succ]
      rw [this]
      rfl
theorem own_some {w : World} {base n : Nat} {e : TypeId} {k : Nat} {v : Value} {xs : List Value} (h : w.ownsRow base e k v n xs) (hn : 0 < n) : ∃ g cap, v = .slice (some ⟨g, 0, none⟩) n cap ∧ base ≤ g ∧ g < w.heap.size ∧ n ≤ cap ∧ cap ≤ maxLen := by
  rcases h.2 with ⟨rfl, rfl⟩ | ⟨g, cap, cur, rfl, hb, hg, hnc, hm, _, _⟩
  · exact absurd hn (by omega)
  · exact ⟨g, cap, rfl, hb, lt_of_block hg, hnc, hm⟩
theorem own_cell {w : World} {base n cap g : Nat} {e : TypeId} {k : Nat} {xs : List Value} (h : w.ownsRow base e k (.slice (some ⟨g, 0, none⟩) n cap) n xs) (j : Nat) (hj : j < xs.length) : ∃ u, w.cell? ⟨g, j, none⟩ = some u := by
  refine ⟨xs[j], ?_⟩
  have := h.cells rfl j _ (List.getElem?_eq_getElem hj)
  have e0 : (⟨g, 0, none⟩ : Addr).add j = ⟨g, j, none⟩ := by unfold Addr.add; split <;> simp_all
  rwa [e0] at this
/-- A host stored in a row of its own. -/
theorem own_put {w : World} {base n cap g : Nat} {e : TypeId} {ys : List Ho} (h : w.ownsRow base e 3 (.slice (some ⟨g, 0, none⟩) n cap) n (cho ys)) (i : Nat) (hi : i < ys.length) (a b : Int) (d : Bool) :
    (∃ u, w.cell? ⟨g, i * 3, none⟩ = some u) ∧ w.frozen? ⟨g, i * 3, none⟩ = false ∧
    (∃ u, (w.setCell ⟨g, i * 3, none⟩ (.int .i64 a)).cell? ⟨g, i * 3 + 1, none⟩ = some u) ∧ (w.setCell ⟨g, i * 3, none⟩ (.int .i64 a)).frozen? ⟨g, i * 3 + 1, none⟩ = false ∧
    (∃ u, ((w.setCell ⟨g, i * 3, none⟩ (.int .i64 a)).setCell ⟨g, i * 3 + 1, none⟩ (.int .i64 b)).cell? ⟨g, i * 3 + 2, none⟩ = some u) ∧ ((w.setCell ⟨g, i * 3, none⟩ (.int .i64 a)).setCell ⟨g, i * 3 + 1, none⟩ (.int .i64 b)).frozen? ⟨g, i * 3 + 2, none⟩ = false ∧
    (((w.setCell ⟨g, i * 3, none⟩ (.int .i64 a)).setCell ⟨g, i * 3 + 1, none⟩ (.int .i64 b)).setCell ⟨g, i * 3 + 2, none⟩ (.bool d)).ownsRow base e 3 (.slice (some ⟨g, 0, none⟩) n cap) n (cho (ys.set i (a, b, d))) ∧
    w.grownBy (((w.setCell ⟨g, i * 3, none⟩ (.int .i64 a)).setCell ⟨g, i * 3 + 1, none⟩ (.int .i64 b)).setCell ⟨g, i * 3 + 2, none⟩ (.bool d)) (some g) := by
  have hl := cho_length ys
  have s1 := h.stored (i * 3) (.int .i64 a)
  have s2 := s1.1.stored (i * 3 + 1) (.int .i64 b)
  have s3 := s2.1.stored (i * 3 + 2) (.bool d)
  refine ⟨own_cell h _ (by omega), h.frozenAt _, own_cell s1.1 _ (by simp; omega), s1.1.frozenAt _, own_cell s2.1 _ (by simp; omega), s2.1.frozenAt _, ?_, grown_same (grown_same s1.2 s2.2) s3.2⟩
  have := cho_set ys i (a, b, d) hi
  rw [← this]
  exact s3.1
end Go.Proofs.Ytbpadfeplmmeeaa
