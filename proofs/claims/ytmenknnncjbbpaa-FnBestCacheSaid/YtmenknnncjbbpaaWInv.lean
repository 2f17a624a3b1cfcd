/- A region that draws its order, walked by one fact that each of its operations keeps. -/
import Derived.Test.YtmenknnncjbbpaaMem2
import Derived.Deep.RegionHeld3
namespace Go.Proofs.Ytmenknnncjbbpaa
open Go.RowKit
section
variable {P : Program} {ops : Array Oper} {Q : Exit → Act → World → Prop} {md : Region.Mode}
/-- How many operations have not come up yet. -/
def notUp (ops : Array Oper) (l : Array Bool) : Nat := ((List.range ops.size).filter fun i => !l.getD i true).length
theorem filter_less {α : Type} {p q : α → Bool} (hpq : ∀ x, p x = true → q x = true) : ∀ {L : List α}, (L.filter p).length ≤ (L.filter q).length
  | [] => Nat.le_refl _
  | x :: r => by
    have ih := filter_less hpq (L := r)
    simp only [List.filter_cons]
    cases hp : p x with
    | true => simp [hpq x hp]; exact ih
    | false =>
      cases q x <;> simp <;> omega
theorem filter_lt {α : Type} {p q : α → Bool} (hpq : ∀ x, p x = true → q x = true) {i : α} (hi : q i = true) (hn : p i = false) : ∀ {L : List α}, i ∈ L → (L.filter p).length < (L.filter q).length
  | x :: r, h => by
    simp only [List.filter_cons]
    rcases List.mem_cons.1 h with e | h
    · subst e
      have ih := filter_less hpq (L := r)
      simp [hi, hn]; omega
    · have ih := filter_lt hpq hi hn h
      cases hp : p x with
      | true => simp [hpq x hp]; exact ih
      | false => cases q x <;> simp <;> omega
theorem notUp_set {l : Array Bool} {i : Nat} (h : i ∈ Region.ready md ops l) : notUp ops (l.setIfInBounds i true) < notUp ops l := by
  obtain ⟨h0, o, ho, _⟩ := mem_ready.1 h
  have hlt : i < ops.size := (Array.getElem?_eq_some_iff.1 ho).1
  have hs : i < l.size := by
    rcases Nat.lt_or_ge i l.size with h' | h'
    · exact h'
    · simp [Array.getElem?_eq_none h'] at h0
  refine filter_lt (i := i) (fun j hj => ?_) (by simp only [h0]; rfl) (by simp [hs]) (List.mem_range.2 hlt)
  by_cases e : i = j
  · subst e; simp [hs] at hj
  · rwa [getD_set_ne true e] at hj
theorem ready_nil {l : Array Bool} (h : notUp ops l = 0) : Region.ready md ops l = [] := by
  have h' := List.eq_nil_of_length_eq_zero h
  rw [List.filter_eq_nil_iff] at h'
  unfold Region.ready
  rw [List.filter_eq_nil_iff]
  intro i hi hc
  rw [Bool.and_eq_true] at hc
  exact h' i hi hc.1
theorem wpAny_kept {I : Array Bool → Act → World → Prop} (hs : ∀ l a w, I l a w → ∀ i ∈ Region.ready md ops l, wpOp P ops Q i (fun a' w' => I (l.setIfInBounds i true) a' w') a w)
    (he : ∀ l a w, I l a w → Region.ready md ops l = [] → Q .normal a w) : ∀ n l a w, notUp ops l ≤ n → I l a w → wpAny P md ops Q n l a w := by
  intro n
  induction n with
  | zero =>
    intro l a w hn hI
    have := ready_nil (md := md) (Nat.le_zero.1 hn)
    exact ⟨this, he l a w hI this⟩
  | succ n ih =>
    intro l a w hn hI
    exact ⟨he l a w hI, fun i hi => wpOp_mono (fun a' w' h' => ih _ a' w' (by have := notUp_set hi; omega) h') (hs l a w hI i hi)⟩
/-- **The region by a kept fact.** -/
theorem wp_region_kept {id : Nat} {a : Act} {w : World} (I : Array Bool → Act → World → Prop) (hm : P.follows .mixedOrders = true) (h0 : I (Array.replicate ops.size false) a w.drew)
    (hs : ∀ l a w, I l a w → ∀ i ∈ Region.ready .any ops l, wpOp P ops Q i (fun a' w' => I (l.setIfInBounds i true) a' w') a w)
    (he : ∀ l a w, I l a w → Region.ready .any ops l = [] → Q .normal a w) : (Code.region id ops true).wp P Q a w :=
  wp_region_any hm (wpAny_kept hs he _ _ _ _ (by unfold notUp; exact Nat.le_trans (List.length_filter_le _ _) (by simp)) h0)
/-- Each operation comes behind those that it waits for. -/
def topo (md : Region.Mode) (ops : Array Oper) : Bool := (List.range ops.size).all fun i => match ops[i]? with | some o => o.after.all fun e => !Region.binds md e || decide (e.on < i) | none => true
theorem topo_at (h : topo md ops = true) {i : Nat} {o : Oper} (ho : ops[i]? = some o) {e : _} (he : e ∈ o.after) (hb : Region.binds md e = true) : e.on < i := by
  have hlt : i < ops.size := (Array.getElem?_eq_some_iff.1 ho).1
  unfold topo at h
  rw [List.all_eq_true] at h
  have := h i (List.mem_range.2 hlt)
  rw [ho] at this
  simp only [Array.all_eq_true_iff_forall_mem, Bool.or_eq_true, Bool.not_eq_true', decide_eq_true_eq] at this
  exact (this e he).resolve_left (by rw [hb]; simp)
theorem all_up (h : topo md ops = true) {l : Array Bool} (hsz : l.size = ops.size) (hr : Region.ready md ops l = []) : ∀ i, i < ops.size → l.getD i false = true := by
  intro i
  induction i using Nat.strongRecOn with
  | ind i ih =>
    intro hi
    cases hl : l.getD i true with
    | true =>
      have h' : i < l.size := by omega
      simp [h'] at hl ⊢
      exact hl
    | false =>
      have hm : i ∈ Region.ready md ops l := mem_ready.2 ⟨hl, ops[i], by simp [hi], fun e he hb => ih e.on (topo_at h (by simp [hi]) he hb) (by have := topo_at (ops := ops) h (i := i) (by simp [hi]) he hb; omega)⟩
      rw [hr] at hm; cases hm
/-- The frame with what the operations of a region have left in their places. -/
def putAll (a : Act) : List (Nat × Nat) → (Nat → Value) → Act
  | [], _ => a
  | (i, d) :: r, u => putAll (a.put (some d) (u i)) r u
def upd (u : Nat → Value) (i : Nat) (v : Value) : Nat → Value := fun j => if j = i then v else u j
theorem upd_at (u : Nat → Value) (i : Nat) (v : Value) : upd u i v i = v := if_pos rfl
theorem upd_ne (u : Nat → Value) {i j : Nat} (v : Value) (h : j ≠ i) : upd u i v j = u j := if_neg h
/-- What has come up holds all that it waits for. -/
def closedUp (ops : Array Oper) (md : Region.Mode) (l : Nat → Bool) : Prop := ∀ j o, ops[j]? = some o → l j = true → ∀ e ∈ o.after, Region.binds md e = true → l e.on = true
/-- **A region by facts, one for each operation.** -/
theorem wp_region_facts {id : Nat} {a : Act} {w : World} (sl : List (Nat × Nat)) (F : Nat → (Nat → Value) → World → Prop) (G : (Nat → Bool) → World → Prop) (u0 : Nat → Value)
    (hm : P.follows .mixedOrders = true) (ht : topo .any ops = true) (hu0 : putAll a sl u0 = a) (h0 : G (fun _ => false) w.drew)
    (hs : ∀ (l : Nat → Bool) u w, G l w → (∀ j, l j = true → F j u w) → closedUp ops .any l → ∀ i o, ops[i]? = some o → l i = false → (∀ e ∈ o.after, Region.binds .any e = true → l e.on = true) →
      wpOp P ops Q i (fun a' w' => ∃ u', a' = putAll a sl u' ∧ (∀ j, l j = true → F j u' w') ∧ F i u' w' ∧ G (fun j => j == i || l j) w') (putAll a sl u) w)
    (he : ∀ u w, (∀ j, j < ops.size → F j u w) → G (fun j => decide (j < ops.size)) w → Q .normal (putAll a sl u) w) : (Code.region id ops true).wp P Q a w := by
  refine wp_region_kept (fun l a' w' => l.size = ops.size ∧ closedUp ops .any (fun j => l.getD j false) ∧ ∃ u, a' = putAll a sl u ∧ (∀ j, l.getD j false = true → F j u w') ∧ G (fun j => l.getD j false) w') hm ?_ ?_ ?_
  · have e : (fun j => (Array.replicate ops.size false).getD j false) = fun _ => false := by
      funext j
      by_cases hj : j < ops.size <;> simp [hj]
    refine ⟨by simp, fun j o _ hj => ?_, u0, hu0.symm, fun j hj => ?_, by rw [e]; exact h0⟩
    · have := (congrFun e j).symm.trans hj; cases this
    · have := (congrFun e j).symm.trans hj; cases this
  · rintro l a' w' ⟨hsz, hcl, u, rfl, hF, hG⟩ i hi
    obtain ⟨hl0, o, ho, hall⟩ := mem_ready.1 hi
    have hlt : i < ops.size := (Array.getElem?_eq_some_iff.1 ho).1
    have hl : l.getD i false = false := by
      have h' : i < l.size := by omega
      simp [h'] at hl0 ⊢
      exact hl0
    have hnew : ∀ j, (l.setIfInBounds i true).getD j false = (j == i || l.getD j false) := by
      intro j
      by_cases e : j = i
      · subst e
        have h' : j < l.size := by omega
        simp [h']
      · rw [getD_set_ne false (Ne.symm e)]
        simp [e]
    refine wpOp_mono (fun a2 w2 h2 => ?_) (hs (fun j => l.getD j false) u w' hG hF hcl i o ho hl hall)
    obtain ⟨u', e2, h3, h4, h5⟩ := h2
    refine ⟨by simp [hsz], ?_, u', e2, fun j hj => ?_, ?_⟩
    · intro j oj hoj hj e hee hb
      dsimp only at hj ⊢
      rw [hnew] at hj ⊢
      simp only [Bool.or_eq_true, beq_iff_eq] at hj ⊢
      rcases hj with rfl | hj
      · rw [ho] at hoj; injection hoj with hoj; subst hoj
        exact .inr (hall e hee hb)
      · exact .inr (hcl j oj hoj hj e hee hb)
    · rw [hnew] at hj
      simp only [Bool.or_eq_true, beq_iff_eq] at hj
      rcases hj with rfl | hj
      · exact h4
      · exact h3 j hj
    · rw [show (fun j => (l.setIfInBounds i true).getD j false) = (fun j => j == i || l.getD j false) from funext hnew]
      exact h5
  · rintro l a' w' ⟨hsz, hcl, u, rfl, hF, hG⟩ hr
    have hall := all_up ht hsz hr
    refine he u w' (fun j hj => hF j (hall j hj)) ?_
    have e : (fun j => l.getD j false) = fun j => decide (j < ops.size) := by
      funext j
      by_cases hj : j < ops.size
      · rw [hall j hj]; exact (decide_eq_true hj).symm
      · have h' : ¬ j < l.size := by omega
        simp [hj, h']
    rw [← e]; exact hG
end
end Go.Proofs.Ytmenknnncjbbpaa
