/- More words for memory: an append of elements just built, at a step of a drawn region. -/
import Derived.Test.YtkkikpmelpjllaaMem
import Derived.Deep.RegionHeld3
import Derived.Deep.RegionWith
namespace Go.Proofs.Ytkkikpmelpjllaa
open Go.RowKit
/-- What is left of a size, -1 for none. -/
def lft (left : Int) (n : Nat) : Int := if left - n < 0 then -1 else left - n
theorem lft_in {n : Nat} (h : n ≤ 1048576) : ∃ m : Nat, lft 1048576 n = (m : Int) ∧ m ≤ 1048576 := by
  refine ⟨1048576 - n, ?_, by omega⟩
  unfold lft
  split <;> omega
theorem lft_out {n : Nat} (h : ¬ n ≤ 1048576) : lft 1048576 n = -1 := by
  unfold lft
  split <;> omega
theorem ext_drew {B : Nat} {a w : World} (h : Below B a w) : Below B a w.drew := ⟨h.os, h.tape, h.output, h.size, h.block⟩
theorem sl_made {w : World} {e : TypeId} {k m : Nat} {cs : List Value} (hl : cs.length = m * k) (hm : m ≤ 1099511627776) : Sl (w.alloc (.cells cs.toArray e)) k (some ⟨w.heap.size, 0, none⟩) m m cs := by
  refine ⟨hl, Nat.le_refl _, by unfold maxLen; omega, fun _ => ⟨_, rfl, by simp, fun j u hu => ?_⟩⟩
  have : (⟨w.heap.size, 0, none⟩ : Addr).add j = ⟨w.heap.size, j, none⟩ := by unfold Addr.add; split <;> simp_all
  rw [this, cell_of_row _ _ _ _ _ _ (heap_alloc_new w _)]
  simpa using hu
section
variable {P : Program} {w : World} {t e : TypeId} {z : Value} {size bytes : Nat} {o : Oper} {a : Act}
/-- An append of elements that were just built, at a step of a drawn region. -/
theorem step_app {ops : Array Oper} {K : Act → World → Prop} {Q : Exit → Act → World → Prop} {E : Prop} (hE : Elt P t e z size bytes) (s x : Operand)
    {base n m : Nat} {v : Value} {xs news : List Value} (hown : w.ownsRow base e size v n xs) (hl : news.length = m * size) (h1 : ∀ u ∈ news, u.oneCell' = true)
    (h63 : n + m ≤ 1099511627776) (hb : bytes ≤ 128) (hbase : base ≤ w.heap.size) (hgd : o.guard = none)
    (ho : o.op = .call { callee := .builtin .append, args := #[s, x], argTypes := #[t, t] }) (hv : a.eval s = v) (hx : a.eval x = .slice (some ⟨w.heap.size, 0, none⟩) m m)
    (h : ∀ v' w', w'.ownsRow base e size v' (n + m) (xs ++ news) → w.grownBy w' v.ownBlock → K (a.put o.dst v') w') :
    if Region.wanted o (yielded ops a.tmps) = true then Oper.wp P o a ((w.alloc (.cells news.toArray e)).drew) K Q else E :=
  step_apps (w := (w.alloc (.cells news.toArray e)).drew) hE s x (show World.ownsRow (w.alloc _).drew _ _ _ _ _ _ from hown.alloc _) (show Sl (w.alloc _).drew _ _ _ _ _ from sl_made (w := w) hl (by omega)) h1 h63 hb
    (show base ≤ (w.alloc _).heap.size by simp; omega) hgd ho hv hx
    (fun v' w' h2 h3 => h v' w' h2 (grown_step (World.grownBy_alloc w _ none |> fun g => (⟨g.os, g.tape, g.output, g.size, fun k hk _ => g.block k hk (by simp)⟩ : w.grownBy ((w.alloc (.cells news.toArray e)).drew) v.ownBlock)) h3 (fun k hk => .inl hk)))
end
/-- A cell stored into new memory. -/
theorem Rw.put {w : World} {B k n c : Nat} {e : TypeId} {A : Option Addr} {us : List Value} (h : Rw w B e k A n c us) (hn : 0 < n) :
    ∃ g, A = some ⟨g, 0, none⟩ ∧ B ≤ g ∧ g < w.heap.size ∧ ∀ i, i < us.length → (∃ u, w.cell? ⟨g, i, none⟩ = some u) ∧ w.frozen? ⟨g, i, none⟩ = false ∧
      ∀ v, Rw (w.setCell ⟨g, i, none⟩ v) B e k A n c (us.set i v) ∧ w.grownBy (w.setCell ⟨g, i, none⟩ v) (some g) := by
  obtain ⟨g, cur, rfl, hb, hg⟩ := h.2 hn
  have hl := lt_of_block hg
  have e0 : ∀ j, (⟨g, 0, none⟩ : Addr).add j = ⟨g, j, none⟩ := fun j => by unfold Addr.add; split <;> simp_all
  have hcell : ∀ (j : Nat) (u : Value), us[j]? = some u → cur[j]? = some u := fun j u hu => by
    obtain ⟨ad, e1, _, e3⟩ := h.1.addr hn
    injection e1 with e1
    subst e1
    have := e3 j u hu
    rwa [e0, cell_of_row w g j _ _ _ hg] at this
  refine ⟨g, rfl, hb, hl, fun i hi => ⟨⟨us[i], ?_⟩, by simp [World.frozen?, hg], fun v => ?_⟩⟩
  · rw [cell_of_row w g i _ _ _ hg]
    exact hcell i _ (List.getElem?_eq_getElem hi)
  · have hci := hcell i _ (List.getElem?_eq_getElem hi)
    have his : i < cur.size := (Array.getElem?_eq_some_iff.1 hci).1
    have hg' : (w.setCell ⟨g, i, none⟩ v).heap[g]? = some (.cells (cur.setIfInBounds i v) e (0, 0)) := by simp [World.setCell, Array.getElem?_modify, hg]
    have hgr : w.grownBy (w.setCell ⟨g, i, none⟩ v) (some g) := ⟨rfl, rfl, rfl, by simp [World.setCell], fun j _ hne => Below.heap_setCell w _ v j (fun e => hne (by rw [e]))⟩
    refine ⟨⟨⟨by rw [List.length_set]; exact h.1.1, h.1.2.1, h.1.2.2.1, fun _ => ⟨_, rfl, Nat.lt_of_lt_of_le hl hgr.size, fun j u hu => ?_⟩⟩, fun _ => ⟨g, _, rfl, hb, hg'⟩⟩, hgr⟩
    rw [e0, cell_of_row _ g j _ _ _ hg']
    rw [List.getElem?_set] at hu
    by_cases hij : i = j
    · subst hij
      simp only [hi] at hu
      simp at hu
      subst hu
      simp [his]
    · rw [if_neg hij] at hu
      rw [Array.getElem?_setIfInBounds_ne hij]
      exact hcell j u hu
/-- The block of a slice that is not empty. -/
def rowOf (A : Option Addr) (n : Nat) : Option Nat := if n = 0 then none else A.map (·.block)
theorem rowOf_some {g n : Nat} (hn : 0 < n) : rowOf (some ⟨g, 0, none⟩) n = some g := by unfold rowOf; rw [if_neg (by omega)]; rfl
/-- A slice is left alone by what changes another block. -/
theorem Sl.apart {w w' : World} {k n c : Nat} {A : Option Addr} {xs : List Value} {row : Option Nat} (h : Sl w k A n c xs) (hg : w.grownBy w' row) (hr : ∀ g, rowOf A n = some g → row ≠ some g) : Sl w' k A n c xs :=
  ⟨h.1, h.2.1, h.2.2.1, fun hn => by
    obtain ⟨ad, e, hb, hc⟩ := h.addr hn
    subst e
    have hne : row ≠ some ad.block := hr _ (by unfold rowOf; rw [if_neg (by omega)]; rfl)
    exact ⟨ad, rfl, Nat.lt_of_lt_of_le hb hg.size, fun j u hu => hg.cell (hc j u hu) (by rw [blk_add]; exact fun e => hne e.symm)⟩⟩
theorem Rw.apart {w w' : World} {B k n c : Nat} {e : TypeId} {A : Option Addr} {xs : List Value} {row : Option Nat} (h : Rw w B e k A n c xs) (hg : w.grownBy w' row) (hr : ∀ g, rowOf A n = some g → row ≠ some g) : Rw w' B e k A n c xs :=
  ⟨h.1.apart hg hr, fun hn => by
    obtain ⟨g, cur, e1, e2, e3⟩ := h.2 hn
    subst e1
    exact ⟨g, cur, rfl, e2, (hg.block g (lt_of_block e3) (fun e => hr g (rowOf_some hn) e.symm)).trans e3⟩⟩
theorem Rw.row {w : World} {B k n c : Nat} {e : TypeId} {A : Option Addr} {xs : List Value} (h : Rw w B e k A n c xs) : ∀ g, rowOf A n = some g → B ≤ g ∧ g < w.heap.size := fun g hg => by
  unfold rowOf at hg
  split at hg
  · cases hg
  · rename_i h0
    obtain ⟨g', cur, e1, e2, e3⟩ := h.2 (by omega)
    subst e1
    injection hg with hg
    subst hg
    exact ⟨e2, lt_of_block e3⟩
theorem Sl.row {w : World} {k n c : Nat} {A : Option Addr} {xs : List Value} (h : Sl w k A n c xs) : ∀ g, rowOf A n = some g → g < w.heap.size := fun g hg => by
  unfold rowOf at hg
  split at hg
  · cases hg
  · rename_i h0
    obtain ⟨ad, e1, e2, _⟩ := h.addr (by omega)
    subst e1
    injection hg with hg
    subst hg
    exact e2
theorem rw_nil (w : World) (B : Nat) (e : TypeId) (k : Nat) (A : Option Addr) (c : Nat) (hc : c ≤ maxLen) : Rw w B e k A 0 c [] := ⟨Sl.nil w k A c hc, fun h => absurd h (by omega)⟩
theorem grown_below {w w' : World} (h : Below w.heap.size w w') (row : Option Nat) : w.grownBy w' row := ⟨h.os, h.tape, h.output, h.size, fun k hk _ => h.block k hk⟩
theorem below_grown {B : Nat} {w0 w w' : World} {row : Option Nat} (h : Below B w0 w) (hg : w.grownBy w' row) (hB : B ≤ w.heap.size) (hr : ∀ g, row = some g → B ≤ g) : Below B w0 w' := h.grown hg hB hr
theorem box0 (w : World) (v : Value) (t : TypeId) (o : Obj) : ((w.alloc (.cells #[v] t)).alloc o).cell? ⟨w.heap.size, 0, none⟩ = some v :=
  (cell_of_row _ _ _ _ _ _ ((Below.heap_alloc _ o _ (by simp)).trans (heap_alloc_new w (.cells #[v] t)))).trans rfl
theorem box1 (w : World) (v : Value) (t : TypeId) (o : Obj) : ((w.alloc o).alloc (.cells #[v] t)).cell? ⟨w.heap.size + 1, 0, none⟩ = some v := by
  have h := heap_alloc_new (w.alloc o) (.cells #[v] t)
  rw [World.size_alloc] at h
  exact (cell_of_row _ _ _ _ _ _ h).trans rfl
/-- Rows of different element types lie in different blocks. -/
theorem own_ne_rw {w : World} {base n B k n' c : Nat} {e e' : TypeId} {size : Nat} {v : Value} {xs us : List Value} {A : Option Addr} (h : w.ownsRow base e size v n xs) (hr : Rw w B e' k A n' c us) (hne : e ≠ e') :
    ∀ g, rowOf A n' = some g → v.ownBlock ≠ some g := fun g hg hv => by
  unfold rowOf at hg
  split at hg
  · cases hg
  · obtain ⟨g', cur, e1, e2, e3⟩ := hr.2 (by omega)
    subst e1
    injection hg with hg
    subst hg
    rcases h.2 with ⟨rfl, _⟩ | ⟨g1, cap, cur1, rfl, _, hh, _⟩
    · simp [Value.ownBlock] at hv
    · simp [Value.ownBlock] at hv
      subst hv
      rw [e3] at hh
      injection hh with hh
      injection hh with _ hh
      exact hne hh.symm
theorem own_apart {w w' : World} {base n : Nat} {e : TypeId} {size : Nat} {v : Value} {xs : List Value} {row : Option Nat} (h : w.ownsRow base e size v n xs) (hg : w.grownBy w' row) (hne : ∀ k, v.ownBlock = some k → row ≠ some k) : w'.ownsRow base e size v n xs :=
  h.kept hg (by
    cases hv : v.ownBlock with
    | none => exact .inl rfl
    | some k => exact .inr (fun e => hne k hv e.symm))
theorem own_some' {w : World} {base n : Nat} {e : TypeId} {k : Nat} {v : Value} {xs : List Value} (h : w.ownsRow base e k v n xs) (hn : 0 < n) : ∃ g cap, v = .slice (some ⟨g, 0, none⟩) n cap ∧ base ≤ g ∧ g < w.heap.size ∧ n ≤ cap ∧ cap ≤ maxLen := by
  rcases h.2 with ⟨rfl, rfl⟩ | ⟨g, cap, cur, rfl, hb, hg, hnc, hm, _, _⟩
  · exact absurd hn (by omega)
  · exact ⟨g, cap, rfl, hb, lt_of_block hg, hnc, hm⟩
theorem own_cell' {w : World} {base n cap g : Nat} {e : TypeId} {k : Nat} {xs : List Value} (h : w.ownsRow base e k (.slice (some ⟨g, 0, none⟩) n cap) n xs) (j : Nat) (hj : j < xs.length) : ∃ u, w.cell? ⟨g, j, none⟩ = some u := by
  refine ⟨xs[j], ?_⟩
  have := h.cells rfl j _ (List.getElem?_eq_getElem hj)
  have e0 : (⟨g, 0, none⟩ : Addr).add j = ⟨g, j, none⟩ := by unfold Addr.add; split <;> simp_all
  rwa [e0] at this
theorem setCell_size (w : World) (p : Addr) (u : Value) : (w.setCell p u).heap.size = w.heap.size := by simp [World.setCell]
/-- As 'wpList_app', the heap's size under a name. -/
theorem wpList_appH {P : Program} {w : World} {ops : Array Oper} {rest : List Oper} {o : Oper} {a : Act} {Q : Exit → Act → World → Prop} {t e : TypeId} {z : Value} {size bytes : Nat} (hE : Elt P t e z size bytes)
    (s x : Operand) (H : Nat) (hH : w.heap.size = H) {base n m : Nat} {v : Value} {xs news : List Value}
    (hown : w.ownsRow base e size v n xs) (hl : news.length = m * size) (h1 : ∀ u ∈ news, u.oneCell' = true)
    (h63 : n + m ≤ 1099511627776) (hb : bytes ≤ 128) (hbase : base ≤ w.heap.size)
    (hgd : o.guard = none) (ho : o.op = .call { callee := .builtin .append, args := #[s, x], argTypes := #[t, t] })
    (hs : a.eval s = v) (hx : a.eval x = .slice (some ⟨H, 0, none⟩) m m)
    (h : ∀ v' w', w'.ownsRow base e size v' (n + m) (xs ++ news) → w.grownBy w' v.ownBlock → wpList P ops Q rest (a.put o.dst v') w') :
    wpList P ops Q (o :: rest) a (w.alloc (.cells news.toArray e)) := by
  subst hH
  exact wpList_app hE s x hown hl h1 h63 hb hbase hgd ho hs hx h
/-- As 'wpAnyH_take', the slot that is written given by itself. -/
theorem wpAnyH_takeD {P : Program} {md : Region.Mode} {ops : Array Oper} {Q : Exit → Act → World → Prop} {S : World → Prop} {i : Nat} {oi : Oper} {v : Value} {fuel : Nat} {listed : Array Bool} {a : Act} {w : World} {dst : Option Nat} (hi : ops[i]? = some oi)
    (hs : Region.noSelect ops = true) (hf : Region.free md ops listed i = true) (hr : (Region.ready md ops listed).contains i = true)
    (hQ : ∀ c a w, Q (.panic c) (a.put oi.dst v) w → Q (.panic c) a w) (hy : YieldsIf P ops S oi v a) (hS : S w) (hd : oi.dst = dst)
    (h : wpAnyH P md ops Q S fuel (listed.setIfInBounds i true) (a.put dst v) w) : wpAnyH P md ops Q S (fuel + 1) listed a w := by
  subst hd
  exact wpAnyH_take hi hs hf hr hQ hy hS h
end Go.Proofs.Ytkkikpmelpjllaa
