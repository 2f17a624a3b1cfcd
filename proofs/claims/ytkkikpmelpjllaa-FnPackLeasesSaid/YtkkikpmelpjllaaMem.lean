/- Words for memory: a slice value that reads as a list of cells, kept as memory grows. -/
import Derived.WalkKit
import Derived.WalkSpells
import Derived.WalkLawsBesides
import Derived.Laws.OwnMore
import Derived.Deep.Draws
import Derived.Maps.AppendAt
import Derived.OwnWalk
import Derived.RegionTactic
namespace Go.Proofs.Ytkkikpmelpjllaa
open Go.RowKit

/-- A fact put aside from the walk. -/
theorem hd {p : Prop} (h : p) : Hid p := h
theorem blk_add (a : Addr) (n : Nat) : (a.add n).block = a.block := by unfold Addr.add; split <;> rfl
theorem add_add (a : Addr) (i j : Nat) : (a.add i).add j = a.add (i + j) := by
  unfold Addr.add
  by_cases hi : i = 0 <;> by_cases hj : j = 0 <;> simp [hi, hj, Nat.add_assoc]

/-- The slice value '.slice A n c' (elements of k cells) reads as the cells xs, in blocks that are there. -/
def Sl (w : World) (k : Nat) (A : Option Addr) (n c : Nat) (xs : List Value) : Prop :=
  xs.length = n * k ∧ n ≤ c ∧ c ≤ maxLen ∧ (0 < n → ∃ ad, A = some ad ∧ ad.block < w.heap.size ∧ ∀ j u, xs[j]? = some u → w.cell? (ad.add j) = some u)

section
variable {w w' : World} {k n c : Nat} {A : Option Addr} {xs : List Value}
theorem Sl.nil (w : World) (k : Nat) (A : Option Addr) (c : Nat) (hc : c ≤ maxLen) : Sl w k A 0 c [] := ⟨by simp, Nat.zero_le _, hc, fun h => absurd h (by omega)⟩
theorem Sl.len (h : Sl w k A n c xs) : xs.length = n * k := h.1
theorem Sl.cap (h : Sl w k A n c xs) : n ≤ c := h.2.1
theorem Sl.max (h : Sl w k A n c xs) : c ≤ maxLen := h.2.2.1
theorem Sl.addr (h : Sl w k A n c xs) (hn : 0 < n) : ∃ ad, A = some ad ∧ ad.block < w.heap.size ∧ ∀ j u, xs[j]? = some u → w.cell? (ad.add j) = some u := h.2.2.2 hn
theorem Sl.keep (h : Sl w k A n c xs) (hz : w.heap.size ≤ w'.heap.size) (hk : ∀ p : Addr, p.block < w.heap.size → w'.cell? p = w.cell? p) : Sl w' k A n c xs :=
  ⟨h.1, h.2.1, h.2.2.1, fun hn => by
    obtain ⟨ad, e, hb, hc⟩ := h.addr hn
    exact ⟨ad, e, by omega, fun j u hu => (hk _ (by rw [blk_add]; exact hb)).trans (hc j u hu)⟩⟩
theorem Sl.ext (h : Sl w k A n c xs) (hb : Below w.heap.size w w') : Sl w' k A n c xs := h.keep hb.size fun _ hp => hb.cell hp
theorem Sl.drewN (h : Sl w k A n c xs) (m : Nat) : Sl (w.drewN m) k A n c xs := h
theorem Sl.alloc (h : Sl w k A n c xs) (o : Obj) : Sl (w.alloc o) k A n c xs := h.ext ((Below.refl _ _).alloc (Nat.le_refl _) o)
/-- One element's cells. -/
theorem Sl.cells (h : Sl w k A n c xs) {i : Nat} (hi : i < n) : ∃ ad, A = some ad ∧ ad.block < w.heap.size ∧ ∀ j, j < k → ∃ u, xs[i * k + j]? = some u ∧ w.cell? (ad.add (i * k + j)) = some u := by
  obtain ⟨ad, e, hb, hc⟩ := h.addr (by omega)
  refine ⟨ad, e, hb, fun j hj => ?_⟩
  have hl : i * k + j < xs.length := by
    rw [h.1]
    have : (i + 1) * k ≤ n * k := Nat.mul_le_mul_right _ hi
    rw [Nat.succ_mul] at this
    omega
  exact ⟨xs[i * k + j], List.getElem?_eq_getElem hl, hc _ _ (List.getElem?_eq_getElem hl)⟩
theorem Sl.take (h : Sl w k A n c xs) {m : Nat} (hm : m ≤ n) : Sl w k A m c (xs.take (m * k)) := by
  refine ⟨by rw [List.length_take, h.1]; exact Nat.min_eq_left (Nat.mul_le_mul_right _ hm), Nat.le_trans hm h.cap, h.max, fun h0 => ?_⟩
  obtain ⟨ad, e, hb, hc⟩ := h.addr (by omega)
  refine ⟨ad, e, hb, fun j u hu => hc j u ?_⟩
  rw [List.getElem?_take] at hu
  split at hu
  · exact hu
  · cases hu
theorem Sl.drop (h : Sl w k A n c xs) {m : Nat} (hm : m ≤ n) : Sl w k (if c = m then A else A.map (·.add (m * k))) (n - m) (c - m) (xs.drop (m * k)) := by
  refine ⟨by rw [List.length_drop, h.1, Nat.sub_mul], by have := h.cap; omega, by have := h.max; omega, fun hn => ?_⟩
  obtain ⟨ad, rfl, hb, hcell⟩ := h.addr (by omega)
  rw [if_neg (by have := h.cap; omega)]
  refine ⟨ad.add (m * k), rfl, by rw [blk_add]; exact hb, fun j u hu => ?_⟩
  rw [add_add]
  exact hcell _ u (by rw [← hu, List.getElem?_drop])
theorem Sl.of_own {base : Nat} {e : TypeId} {v : Value} (h : w.ownsRow base e k v n xs) : ∃ A c, v = .slice A n c ∧ Sl w k A n c xs ∧ (∀ ad, A = some ad → base ≤ ad.block) := by
  rcases h.2 with ⟨rfl, rfl⟩ | ⟨g, cap, cur, rfl, hb, hg, hn, hm, _, _⟩
  · exact ⟨none, 0, rfl, ⟨h.1, Nat.le_refl _, Nat.zero_le _, fun h0 => absurd h0 (by omega)⟩, fun _ e => by cases e⟩
  · exact ⟨some ⟨g, 0, none⟩, cap, rfl, ⟨h.1, hn, hm, fun _ => ⟨_, rfl, lt_of_block hg, h.cells rfl⟩⟩, fun ad e => by injection e with e; subst e; exact hb⟩
end
theorem below_drewN {B : Nat} {a w : World} (h : Below B a w) (n : Nat) : Below B a (w.drewN n) := ⟨h.os, h.tape, h.output, h.size, h.block⟩
/-- Two steps of memory that only grows. -/
theorem ext_trans {w w1 w2 : World} (h : Below w.heap.size w w1) (k : Below w1.heap.size w1 w2) : Below w.heap.size w w2 := h.trans (k.mono h.size)
theorem ext_alloc {w w1 : World} (h : Below w.heap.size w w1) (o : Obj) : Below w.heap.size w (w1.alloc o) := h.alloc h.size o

theorem grown_step {w w1 w2 : World} {row row' : Option Nat} (h : w.grownBy w1 row) (hg : w1.grownBy w2 row') (hr : ∀ k, row' = some k → row = some k ∨ w.heap.size ≤ k) : w.grownBy w2 row :=
  ⟨hg.os.trans h.os, hg.tape.trans h.tape, hg.output.trans h.output, Nat.le_trans h.size hg.size, fun k hk hne =>
    (hg.block k (Nat.lt_of_lt_of_le hk h.size) (fun e => by
      rcases hr k e.symm with e' | e'
      · exact hne e'.symm
      · omega)).trans (h.block k hk hne)⟩
theorem grown_same {w w1 w2 : World} {row : Option Nat} (h : w.grownBy w1 row) (hg : w1.grownBy w2 row) : w.grownBy w2 row := grown_step h hg fun _ e => .inl e
theorem grown_ext {w w1 w2 : World} {row : Option Nat} (h : w.grownBy w1 row) (hg : Below w1.heap.size w1 w2) : w.grownBy w2 row :=
  ⟨hg.os.trans h.os, hg.tape.trans h.tape, hg.output.trans h.output, Nat.le_trans h.size hg.size, fun k hk hne => (hg.block k (Nat.lt_of_lt_of_le hk h.size)).trans (h.block k hk hne)⟩
theorem ext_grown {w w1 w2 : World} {row : Option Nat} (h : Below w.heap.size w w1) (hg : w1.grownBy w2 row) (hr : ∀ k, row = some k → w.heap.size ≤ k) : Below w.heap.size w w2 := h.grown hg h.size hr
theorem own_ge {w : World} {base : Nat} {e : TypeId} {size n : Nat} {v : Value} {xs : List Value} (h : w.ownsRow base e size v n xs) : ∀ k, v.ownBlock = some k → base ≤ k := fun k hk => (h.lt k hk).1
theorem own_far {w w' : World} {base rb : Nat} {e : TypeId} {size n : Nat} {v : Value} {xs : List Value} (h : w.ownsRow base e size v n xs) (hg : w.grownBy w' (some rb)) (hb : rb < base) : w'.ownsRow base e size v n xs :=
  h.kept hg (by
    cases hv : v.ownBlock with
    | none => exact .inl rfl
    | some k => exact .inr (fun e => by injection e with e; have := own_ge h k hv; omega))
theorem own_ext {w w' : World} {base : Nat} {e : TypeId} {size n : Nat} {v : Value} {xs : List Value} (h : w.ownsRow base e size v n xs) (hg : Below w.heap.size w w') : w'.ownsRow base e size v n xs :=
  h.kept (row := none) ⟨hg.os, hg.tape, hg.output, hg.size, fun k hk _ => hg.block k hk⟩ (by cases v.ownBlock <;> simp)

/-- What a slice type's elements are. -/
structure Elt (P : Program) (t e : TypeId) (z : Value) (size bytes : Nat) : Prop where
  ht : P.underlying t = some (.slice e)
  hi : (P.info? e).map (fun i => (i.zero, i.size, i.bytes)) = some (some z, size, bytes)
  hzs : z.cells.size = size
  hsz : 0 < size
/-- An append of elements that were just built, in a block of their own. -/
theorem wpList_app {P : Program} {w : World} {ops : Array Oper} {rest : List Oper} {o : Oper} {a : Act} {Q : Exit → Act → World → Prop} {t e : TypeId} {z : Value} {size bytes : Nat} (hE : Elt P t e z size bytes)
    (s x : Operand) {base n m : Nat} {v : Value} {xs news : List Value}
    (hown : w.ownsRow base e size v n xs) (hl : news.length = m * size) (h1 : ∀ u ∈ news, u.oneCell' = true)
    (h63 : n + m ≤ 1099511627776) (hb : bytes ≤ 128) (hbase : base ≤ w.heap.size)
    (hgd : o.guard = none) (ho : o.op = .call { callee := .builtin .append, args := #[s, x], argTypes := #[t, t] })
    (hs : a.eval s = v) (hx : a.eval x = .slice (some ⟨w.heap.size, 0, none⟩) m m)
    (h : ∀ v' w', w'.ownsRow base e size v' (n + m) (xs ++ news) → w.grownBy w' v.ownBlock → wpList P ops Q rest (a.put o.dst v') w') :
    wpList P ops Q (o :: rest) a (w.alloc (.cells news.toArray e)) := by
  obtain ⟨i, hi, hz0, hz1, hz2⟩ := info_parts hE.hi
  refine wpList_append_own _ hgd s x t ho base e i z size bytes hE.ht hi hz0 hz1 hz2 hE.hzs hE.hsz v n xs hs (hown.alloc _) ⟨w.heap.size, 0, none⟩ m m news hx hl ?_ h1 (by unfold maxLen; omega) ?_ (by simp; omega) ?_
  · intro j u hu
    have : (⟨w.heap.size, 0, none⟩ : Addr).add j = ⟨w.heap.size, j, none⟩ := by unfold Addr.add; split <;> simp_all
    rw [this, cell_of_row _ _ _ _ _ _ (heap_alloc_new w _)]
    simpa using hu
  · exact Nat.le_trans (Nat.mul_le_mul h63 hb) (by decide)
  · intro v' w' h2 h3 _
    exact h v' w' h2 ⟨h3.os, h3.tape, h3.output, Nat.le_trans (by simp) h3.size, fun k hk hne => (h3.block k (by simp; omega) hne).trans (Below.heap_alloc w _ k hk)⟩
theorem own_made (w : World) (e : TypeId) (size : Nat) (cs : List Value) (n : Nat) (hl : cs.length = n * size) (hn : n ≤ maxLen) :
    (w.alloc (.cells cs.toArray e)).ownsRow w.heap.size e size (.slice (some ⟨w.heap.size, 0, none⟩) n n) n cs :=
  ⟨hl, .inr ⟨w.heap.size, n, cs.toArray, rfl, Nat.le_refl _, heap_alloc_new w _, Nat.le_refl _, hn, by simpa using hl, by rw [← hl]; simp⟩⟩
theorem own_mono {w : World} {base base' : Nat} {e : TypeId} {size n : Nat} {v : Value} {xs : List Value} (h : w.ownsRow base e size v n xs) (hb : base' ≤ base) : w.ownsRow base' e size v n xs := by
  refine ⟨h.1, ?_⟩
  rcases h.2 with h2 | ⟨g, cap, cur, hv, hg, r⟩
  · exact .inl h2
  · exact .inr ⟨g, cap, cur, hv, by omega, r⟩

theorem run_app_nil {P : Program} (w : World) (base : Nat) (t ty e : TypeId) (i : TypeInfo) (size : Nat) (ht : P.underlying t = some (.slice e)) (hi : P.info? e = some i)
    (v : Value) (n : Nat) (xs : List Value) (hown : w.ownsRow base e size v n xs) (c : Nat) : (Builtin.append_ #[t, t] ty #[v, .slice none 0 c]).run P w = .ok v w := by
  rcases hown.2 with ⟨rfl, rfl⟩ | ⟨g, cap, cur, rfl, _, _, hnc, _⟩
  · simp [Builtin.append_, run_underlying ht, sizeOf, typeInfo, hi, Builtin.lenOf, Builtin.firstCells]
  · simp [Builtin.append_, run_underlying ht, sizeOf, typeInfo, hi, Builtin.lenOf, Builtin.firstCells, hnc, storeCells]
/-- An append of a slice's elements, nil or not. -/
theorem run_apps {P : Program} {w : World} {t e : TypeId} {z : Value} {size bytes : Nat} (hE : Elt P t e z size bytes) (ty : TypeId)
    {base n m c : Nat} {v : Value} {A : Option Addr} {xs news : List Value} (hown : w.ownsRow base e size v n xs) (hs : Sl w size A m c news) (h1 : ∀ u ∈ news, u.oneCell' = true)
    (h63 : n + m ≤ 1099511627776) (hb : bytes ≤ 128) (hbase : base ≤ w.heap.size) :
    ∃ v' w', (Builtin.append_ #[t, t] ty #[v, .slice A m c]).run P w = .ok v' w' ∧ w'.ownsRow base e size v' (n + m) (xs ++ news) ∧ w.grownBy w' v.ownBlock := by
  obtain ⟨i, hi, hz0, hz1, hz2⟩ := info_parts hE.hi
  have hbb : (n + m) * bytes ≤ 140737488355328 := Nat.le_trans (Nat.mul_le_mul h63 hb) (by decide)
  have hmx : n + m ≤ maxLen := by unfold maxLen; omega
  rcases Nat.eq_zero_or_pos m with h0 | h0
  · subst h0
    have hn : news = [] := List.eq_nil_of_length_eq_zero (by simpa using hs.1)
    subst hn
    cases A with
    | none => exact ⟨v, w, run_app_nil w base t ty e i size hE.ht hi v n xs hown c, by simpa using hown, World.grownBy.refl w _⟩
    | some ad =>
      obtain ⟨v', w', hr, h2, h3, _⟩ := run_append_own_at (P := P) w base t ty e i z size bytes hE.ht hi hz0 hz1 hz2 hE.hzs hE.hsz v n xs hown ad 0 c [] (by simp) (fun j u hu => by simp at hu) h1 hmx hbb hbase
      exact ⟨v', w', hr, h2, h3⟩
  · obtain ⟨ad, rfl, _, hc⟩ := hs.addr h0
    obtain ⟨v', w', hr, h2, h3, _⟩ := run_append_own_at (P := P) w base t ty e i z size bytes hE.ht hi hz0 hz1 hz2 hE.hzs hE.hsz v n xs hown ad m c news hs.1 hc h1 hmx hbb hbase
    exact ⟨v', w', hr, h2, h3⟩
section
variable {P : Program} {w : World} {t e : TypeId} {z : Value} {size bytes : Nat} {o : Oper} {a : Act}
theorem wp_apps {K : Act → World → Prop} {Q : Exit → Act → World → Prop} (hE : Elt P t e z size bytes) (s x : Operand)
    {base n m c : Nat} {v : Value} {A : Option Addr} {xs news : List Value} (hown : w.ownsRow base e size v n xs) (hs : Sl w size A m c news) (h1 : ∀ u ∈ news, u.oneCell' = true)
    (h63 : n + m ≤ 1099511627776) (hb : bytes ≤ 128) (hbase : base ≤ w.heap.size)
    (ho : o.op = .call { callee := .builtin .append, args := #[s, x], argTypes := #[t, t] }) (hv : a.eval s = v) (hx : a.eval x = .slice A m c)
    (h : ∀ v' w', w'.ownsRow base e size v' (n + m) (xs ++ news) → w.grownBy w' v.ownBlock → K (a.put o.dst v') w') : o.wp P a w K Q := by
  obtain ⟨v', w', hr, h2, h3⟩ := run_apps (P := P) hE o.type hown hs h1 h63 hb hbase
  unfold Oper.wp execOp
  simp only [ho, resolve, invoke, builtin, Sem.run_bind, Sem.run_pure, Result.andThen_ok, List.map_toArray, List.map_cons, List.map_nil, hv, hx, hr]
  exact h v' w' h2 h3
theorem wpList_apps {ops : Array Oper} {rest : List Oper} {Q : Exit → Act → World → Prop} (hE : Elt P t e z size bytes) (s x : Operand)
    {base n m c : Nat} {v : Value} {A : Option Addr} {xs news : List Value} (hown : w.ownsRow base e size v n xs) (hs : Sl w size A m c news) (h1 : ∀ u ∈ news, u.oneCell' = true)
    (h63 : n + m ≤ 1099511627776) (hb : bytes ≤ 128) (hbase : base ≤ w.heap.size) (hgd : o.guard = none)
    (ho : o.op = .call { callee := .builtin .append, args := #[s, x], argTypes := #[t, t] }) (hv : a.eval s = v) (hx : a.eval x = .slice A m c)
    (h : ∀ v' w', w'.ownsRow base e size v' (n + m) (xs ++ news) → w.grownBy w' v.ownBlock → wpList P ops Q rest (a.put o.dst v') w') : wpList P ops Q (o :: rest) a w :=
  wpList_plain hgd fun _ hK => wp_apps hE s x hown hs h1 h63 hb hbase ho hv hx fun v' w' h2 h3 => hK _ _ (h v' w' h2 h3)
theorem step_apps {ops : Array Oper} {K : Act → World → Prop} {Q : Exit → Act → World → Prop} {E : Prop} (hE : Elt P t e z size bytes) (s x : Operand)
    {base n m c : Nat} {v : Value} {A : Option Addr} {xs news : List Value} (hown : w.ownsRow base e size v n xs) (hs : Sl w size A m c news) (h1 : ∀ u ∈ news, u.oneCell' = true)
    (h63 : n + m ≤ 1099511627776) (hb : bytes ≤ 128) (hbase : base ≤ w.heap.size) (hgd : o.guard = none)
    (ho : o.op = .call { callee := .builtin .append, args := #[s, x], argTypes := #[t, t] }) (hv : a.eval s = v) (hx : a.eval x = .slice A m c)
    (h : ∀ v' w', w'.ownsRow base e size v' (n + m) (xs ++ news) → w.grownBy w' v.ownBlock → K (a.put o.dst v') w') :
    if Region.wanted o (yielded ops a.tmps) = true then Oper.wp P o a w K Q else E := by
  have hw : Region.wanted o (yielded ops a.tmps) = true := by simp [Region.wanted, hgd]
  rw [if_pos hw]
  exact wp_apps hE s x hown hs h1 h63 hb hbase ho hv hx h
end

/-- Numbers as cells. -/
def ci (xs : List Int) : List Value := xs.map (Value.int .i64)
theorem ci_length (xs : List Int) : (ci xs).length = xs.length := by simp [ci]
theorem ci_append (xs ys : List Int) : ci (xs ++ ys) = ci xs ++ ci ys := by simp [ci]
theorem ci_one (xs : List Int) : ∀ u ∈ ci xs, u.oneCell' = true := ints_oneCell .i64 xs
/-- A slice of numbers. -/
def SlI (w : World) (A : Option Addr) (c : Nat) (xs : List Int) : Prop := Sl w 1 A xs.length c (ci xs)
theorem SlI.ext {w w' : World} {A : Option Addr} {c : Nat} {xs : List Int} (h : SlI w A c xs) (hb : Below w.heap.size w w') : SlI w' A c xs := Sl.ext h hb
theorem SlI.at {w : World} {A : Option Addr} {c : Nat} {xs : List Int} (h : SlI w A c xs) {i : Nat} (hi : i < xs.length) :
    ∃ ad, A = some ad ∧ ad.block < w.heap.size ∧ w.cell? (ad.add i) = some (.int .i64 xs[i]) := by
  obtain ⟨ad, e, hb, hc⟩ := Sl.addr h (by omega)
  exact ⟨ad, e, hb, hc i _ (by simp [ci, hi])⟩
theorem slI_made (w : World) (e : TypeId) (cs : List Int) (h : cs.length ≤ 1000) : SlI (w.alloc (.cells (ci cs).toArray e)) (some ⟨w.heap.size, 0, none⟩) cs.length cs := by
  refine ⟨by simp [ci], Nat.le_refl _, by unfold maxLen; omega, fun _ => ⟨_, rfl, by simp, fun j u hu => ?_⟩⟩
  have : (⟨w.heap.size, 0, none⟩ : Addr).add j = ⟨w.heap.size, j, none⟩ := by unfold Addr.add; split <;> simp_all
  rw [this, cell_of_row _ _ _ _ _ _ (heap_alloc_new w _)]
  simpa using hu
/-- Settings as cells. -/
abbrev St := Int × Int
def cst (xs : List St) : List Value := xs.flatMap fun s => [.int .i64 s.1, .int .i64 s.2]
theorem cst_length (xs : List St) : (cst xs).length = xs.length * 2 := by induction xs <;> simp_all [cst]; omega
theorem cst_append (xs ys : List St) : cst (xs ++ ys) = cst xs ++ cst ys := by simp [cst]
theorem cst_at0 (xs : List St) (i : Nat) (h : i < xs.length) : (cst xs)[i * 2]? = some (.int .i64 xs[i].1) := by
  induction xs generalizing i with
  | nil => simp at h
  | cons x r ih =>
    cases i with
    | zero => rfl
    | succ i =>
      have : (cst (x :: r)) = .int .i64 x.1 :: .int .i64 x.2 :: cst r := rfl
      rw [this, show (i + 1) * 2 = i * 2 + 1 + 1 from by omega, List.getElem?_cons_succ, List.getElem?_cons_succ, ih i (by simpa using h)]
      rfl
theorem cst_at1 (xs : List St) (i : Nat) (h : i < xs.length) : (cst xs)[i * 2 + 1]? = some (.int .i64 xs[i].2) := by
  induction xs generalizing i with
  | nil => simp at h
  | cons x r ih =>
    cases i with
    | zero => rfl
    | succ i =>
      have : (cst (x :: r)) = .int .i64 x.1 :: .int .i64 x.2 :: cst r := rfl
      rw [this, show (i + 1) * 2 + 1 = i * 2 + 1 + 1 + 1 from by omega, List.getElem?_cons_succ, List.getElem?_cons_succ, ih i (by simpa using h)]
      rfl
theorem cst_take (xs : List St) (m : Nat) : (cst xs).take (m * 2) = cst (xs.take m) := by
  induction m generalizing xs with
  | zero => simp [cst]
  | succ m ih =>
    cases xs with
    | nil => simp [cst]
    | cons x r =>
      have : (cst (x :: r)) = .int .i64 x.1 :: .int .i64 x.2 :: cst r := rfl
      rw [this, show (m + 1) * 2 = m * 2 + 1 + 1 from by omega, List.take_succ_cons, List.take_succ_cons, ih]
      rfl
theorem cst_drop (xs : List St) (m : Nat) : (cst xs).drop (m * 2) = cst (xs.drop m) := by
  induction m generalizing xs with
  | zero => simp
  | succ m ih =>
    cases xs with
    | nil => simp [cst]
    | cons x r =>
      have : (cst (x :: r)) = .int .i64 x.1 :: .int .i64 x.2 :: cst r := rfl
      rw [this, show (m + 1) * 2 = m * 2 + 1 + 1 from by omega, List.drop_succ_cons, List.drop_succ_cons, ih]
      rfl
/-- A slice of settings. -/
def SlS (w : World) (A : Option Addr) (c : Nat) (xs : List St) : Prop := Sl w 2 A xs.length c (cst xs)
theorem SlS.ext {w w' : World} {A : Option Addr} {c : Nat} {xs : List St} (h : SlS w A c xs) (hb : Below w.heap.size w w') : SlS w' A c xs := Sl.ext h hb
theorem SlS.at {w : World} {A : Option Addr} {c : Nat} {xs : List St} (h : SlS w A c xs) {i : Nat} (hi : i < xs.length) :
    ∃ ad, A = some ad ∧ ad.block < w.heap.size ∧ w.cell? (ad.add (i * 2)) = some (.int .i64 xs[i].1) ∧ w.cell? ⟨(ad.add (i * 2)).block, (ad.add (i * 2)).off + 1, none⟩ = some (.int .i64 xs[i].2) := by
  obtain ⟨ad, e, hb, hc⟩ := Sl.cells h hi
  refine ⟨ad, e, hb, ?_, ?_⟩
  · obtain ⟨u, hu, hw⟩ := hc 0 (by omega)
    rw [Nat.add_zero, cst_at0 xs i hi] at hu
    rw [Nat.add_zero] at hw
    rw [hw, ← hu]
  · obtain ⟨u, hu, hw⟩ := hc 1 (by omega)
    rw [cst_at1 xs i hi] at hu
    rw [← add_add] at hw
    rw [hu, ← hw]
    rfl
theorem slS_of_own {w : World} {base n : Nat} {e : TypeId} {v : Value} {xs : List Value} {zs : List St} (h : w.ownsRow base e 2 v n xs) (hx : xs = cst zs) (hn : n = zs.length) :
    ∃ A c, v = .slice A zs.length c ∧ SlS w A c zs ∧ (∀ ad, A = some ad → base ≤ ad.block) := by
  subst hx hn
  exact Sl.of_own h
theorem SlS.take {w : World} {A : Option Addr} {c : Nat} {xs : List St} (h : SlS w A c xs) {m : Nat} (hm : m ≤ xs.length) : Sl w 2 A m c (cst (xs.take m)) := by
  have := Sl.take h hm
  rwa [cst_take] at this
theorem SlS.drop {w : World} {A : Option Addr} {c : Nat} {xs : List St} (h : SlS w A c xs) {m : Nat} (hm : m ≤ xs.length) : Sl w 2 (if c = m then A else A.map (·.add (m * 2))) (xs.length - m) (c - m) (cst (xs.drop m)) := by
  have := Sl.drop h hm
  rwa [cst_drop] at this
/-- A slice of new memory: it reads as xs, and may be written (its block, from B on, is no frozen one). -/
def Rw (w : World) (B : Nat) (e : TypeId) (k : Nat) (A : Option Addr) (n c : Nat) (xs : List Value) : Prop :=
  Sl w k A n c xs ∧ (0 < n → ∃ g cur, A = some ⟨g, 0, none⟩ ∧ B ≤ g ∧ w.heap[g]? = some (.cells cur e (0, 0)))
section
variable {w w' : World} {B k n c : Nat} {e : TypeId} {A : Option Addr} {xs : List Value}
theorem Rw.sl (h : Rw w B e k A n c xs) : Sl w k A n c xs := h.1
theorem Rw.ext (h : Rw w B e k A n c xs) (hb : Below w.heap.size w w') : Rw w' B e k A n c xs :=
  ⟨h.1.ext hb, fun hn => by
    obtain ⟨g, cur, e1, e2, e3⟩ := h.2 hn
    exact ⟨g, cur, e1, e2, (hb.block g (lt_of_block e3)).trans e3⟩⟩
theorem Rw.clip (h : Rw w B e k A n c xs) : Rw w B e k A n n xs := ⟨⟨h.1.1, Nat.le_refl _, Nat.le_trans h.1.cap h.1.max, h.1.2.2.2⟩, h.2⟩
theorem Rw.low {B' : Nat} (h : Rw w B e k A n c xs) (hB : B' ≤ B) : Rw w B' e k A n c xs :=
  ⟨h.1, fun hn => by
    obtain ⟨g, cur, e1, e2, e3⟩ := h.2 hn
    exact ⟨g, cur, e1, by omega, e3⟩⟩
theorem Rw.of_own {v : Value} (h : w.ownsRow B e k v n xs) : ∃ A c, v = .slice A n c ∧ Rw w B e k A n c xs := by
  rcases h.2 with ⟨rfl, rfl⟩ | ⟨g, cap, cur, rfl, hb, hg, hn, hm, _, _⟩
  · exact ⟨none, 0, rfl, ⟨h.1, Nat.le_refl _, Nat.zero_le _, fun h0 => absurd h0 (by omega)⟩, fun h0 => absurd h0 (by omega)⟩
  · exact ⟨some ⟨g, 0, none⟩, cap, rfl, ⟨h.1, hn, hm, fun _ => ⟨_, rfl, lt_of_block hg, h.cells rfl⟩⟩, fun _ => ⟨g, cur, rfl, hb, hg⟩⟩
/-- What was written in other blocks, or is new, leaves it. -/
theorem Rw.far {row : Option Nat} (h : Rw w B e k A n c xs) (hg : w.grownBy w' row) (hr : ∀ g, row = some g → g < B) : Rw w' B e k A n c xs :=
  ⟨⟨h.1.1, h.1.2.1, h.1.2.2.1, fun hn => by
      obtain ⟨ad, e1, e2, e3⟩ := h.1.addr hn
      obtain ⟨g, cur, f1, f2, f3⟩ := h.2 hn
      have : ad = ⟨g, 0, none⟩ := by rw [e1] at f1; injection f1
      subst this
      exact ⟨_, e1, Nat.lt_of_lt_of_le e2 hg.size, fun j u hu => hg.cell (e3 j u hu) (by rw [blk_add]; exact fun e' => absurd (hr _ e'.symm) (by show ¬ g < B; omega))⟩⟩,
    fun hn => by
      obtain ⟨g, cur, f1, f2, f3⟩ := h.2 hn
      exact ⟨g, cur, f1, f2, (hg.block g (lt_of_block f3) (fun e' => by have := hr g e'.symm; omega)).trans f3⟩⟩
end
/-- New settings. -/
def RwS (w : World) (B : Nat) (e : TypeId) (A : Option Addr) (c : Nat) (xs : List St) : Prop := Rw w B e 2 A xs.length c (cst xs)
theorem RwS.sl {w : World} {B : Nat} {e : TypeId} {A : Option Addr} {c : Nat} {xs : List St} (h : RwS w B e A c xs) : SlS w A c xs := h.1
theorem rwS_of_own {w : World} {base n : Nat} {e : TypeId} {v : Value} {xs : List Value} {zs : List St} (h : w.ownsRow base e 2 v n xs) (hx : xs = cst zs) (hn : n = zs.length) :
    ∃ A c, v = .slice A zs.length c ∧ RwS w base e A c zs := by
  subst hx hn
  exact Rw.of_own h
/-- Settings handed back in new memory. -/
def NewS (e : TypeId) (zs : List St) (w : World) (r : Ending) (w' : World) : Prop :=
  ∃ A c, r = .returned (.slice A zs.length c) ∧ RwS w' w.heap.size e A c zs ∧ Below w.heap.size w w'
/-- A cut at the front, its address under a name. -/
theorem SlS.dropE {w : World} {A : Option Addr} {c : Nat} {xs : List St} (h : SlS w A c xs) {m : Nat} (hm : m ≤ xs.length) :
    ∃ A', (if c = m then A else Option.map (fun x => x.add (m * 2)) A) = A' ∧ Sl w 2 A' (xs.length - m) (c - m) (cst (xs.drop m)) := ⟨_, rfl, h.drop hm⟩
/-- As 'wpList_app', and where the new row lies. -/
theorem wpList_app_at {P : Program} {w : World} {ops : Array Oper} {rest : List Oper} {o : Oper} {a : Act} {Q : Exit → Act → World → Prop} {t e : TypeId} {z : Value} {size bytes : Nat} (hE : Elt P t e z size bytes)
    (s x : Operand) {base n m : Nat} {v : Value} {xs news : List Value}
    (hown : w.ownsRow base e size v n xs) (hl : news.length = m * size) (h1 : ∀ u ∈ news, u.oneCell' = true)
    (h63 : n + m ≤ 1099511627776) (hb : bytes ≤ 128) (hbase : base ≤ w.heap.size)
    (hgd : o.guard = none) (ho : o.op = .call { callee := .builtin .append, args := #[s, x], argTypes := #[t, t] })
    (hs : a.eval s = v) (hx : a.eval x = .slice (some ⟨w.heap.size, 0, none⟩) m m)
    (h : ∀ v' w', w'.ownsRow base e size v' (n + m) (xs ++ news) → w.grownBy w' v.ownBlock → (v'.ownBlock = v.ownBlock ∨ ∃ g, v'.ownBlock = some g ∧ w.heap.size ≤ g) → wpList P ops Q rest (a.put o.dst v') w') :
    wpList P ops Q (o :: rest) a (w.alloc (.cells news.toArray e)) := by
  obtain ⟨i, hi, hz0, hz1, hz2⟩ := info_parts hE.hi
  refine wpList_plain hgd fun K hK => ?_
  obtain ⟨v', w', hr, h2, h3, _, h4⟩ := run_append_own_at (P := P) (w.alloc (.cells news.toArray e)) base t o.type e i z size bytes hE.ht hi hz0 hz1 hz2 hE.hzs hE.hsz v n xs (hown.alloc _) ⟨w.heap.size, 0, none⟩ m m news hl (by
      intro j u hu
      have : (⟨w.heap.size, 0, none⟩ : Addr).add j = ⟨w.heap.size, j, none⟩ := by unfold Addr.add; split <;> simp_all
      rw [this, cell_of_row _ _ _ _ _ _ (heap_alloc_new w _)]
      simpa using hu) h1 (by unfold maxLen; omega) (Nat.le_trans (Nat.mul_le_mul h63 hb) (by decide)) (by simp; omega)
  unfold Oper.wp execOp
  simp only [ho, resolve, invoke, builtin, Sem.run_bind, Sem.run_pure, Result.andThen_ok, List.map_toArray, List.map_cons, List.map_nil, hs, hx, hr]
  refine hK _ _ (h v' w' h2 ⟨h3.os, h3.tape, h3.output, Nat.le_trans (by simp) h3.size, fun k hk hne => (h3.block k (by simp; omega) hne).trans (Below.heap_alloc w _ k hk)⟩ ?_)
  rcases h4 with h4 | h4
  · exact .inl h4
  · exact .inr ⟨_, h4, by simp⟩
end Go.Proofs.Ytkkikpmelpjllaa
