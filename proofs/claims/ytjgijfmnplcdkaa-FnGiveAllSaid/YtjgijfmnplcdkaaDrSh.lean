/- What the draw of a share gives. -/
import Derived.Test.YtjgijfmnplcdkaaWSc
import Derived.Test.YtjgijfmnplcdkaaDrK
import Derived.Test.YtjgijfmnplcdkaaWInv
namespace Go.Proofs.Ytjgijfmnplcdkaa
open Go.RowKit
theorem mk5 (w : World) : (Instr.makeSlice 23 (.int .i64 5) (.int .i64 5)).run Try.prog w = .ok (.slice (some ⟨w.heap.size, 0, none⟩) 5 5) (w.alloc (.cells #[.int .i64 0, .int .i64 0, .int .i64 0, .int .i64 0, .int .i64 0] 3)) := by kernel_rfl
/-- What the operations of the share's making leave. -/
def FSh (B rb : Nat) (j : Nat) (x : Value) (W : World) : Prop :=
  match j with
  | 0 => x = .pointer (some ⟨rb, 0, none⟩)
  | 1 => ∃ g, x = .slice (some ⟨g, 0, none⟩) 5 5 ∧ RwI W B (some ⟨g, 0, none⟩) 5 [6, 10, 20, 3, 0]
  | 2 => ∃ v : Int, x = .int .i64 v ∧ 0 ≤ v ∧ v ≤ 20
  | 3 => ∃ g, x = .slice (some ⟨g, 0, none⟩) 0 0 ∧ g < W.heap.size
  | 4 => ∃ g, x = .slice (some ⟨g, 0, none⟩) 5 5 ∧ RwI W B (some ⟨g, 0, none⟩) 5 [0, 0, 0, 0, 0]
  | 5 => ∃ (v : Int) (a g : Nat), x = .agg #[.int .i64 v, .slice (some ⟨a, 0, none⟩) 0 0, .slice (some ⟨g, 0, none⟩) 5 5] ∧ 0 ≤ v ∧ v ≤ 20 ∧ a < W.heap.size ∧ RwI W B (some ⟨g, 0, none⟩) 5 [0, 0, 0, 0, 0]
  | 6 => ∃ (g : Nat) (a b c : Value), x = .pointer (some ⟨g, 0, none⟩) ∧ B ≤ g ∧ Bx W g a b c
  | 7 => ∃ (k : Nat) (v : Int) (a g : Nat), x = .pointer (some ⟨k, 0, none⟩) ∧ B ≤ k ∧ Bx W k (.int .i64 v) (.slice (some ⟨a, 0, none⟩) 0 0) (.slice (some ⟨g, 0, none⟩) 5 5) ∧ 0 ≤ v ∧ v ≤ 20 ∧ a < W.heap.size ∧ RwI W B (some ⟨g, 0, none⟩) 5 [0, 0, 0, 0, 0]
  | _ => True
theorem bx_far {w w' : World} {g rb : Nat} {u v x : Value} (h : Bx w g u v x) (hg : w.grownBy w' (some rb)) (hne : g ≠ rb) : Bx w' g u v x :=
  (hg.block g h.lt (fun e => hne (by injection e))).trans h
theorem FSh.grown {B rb j : Nat} {x : Value} {W W' : World} (h : FSh B rb j x W) (hg : W.grownBy W' (some rb)) (hb : rb < B) : FSh B rb j x W' := by
  have hz := hg.size
  unfold FSh at h ⊢
  split at h
  · exact h
  · obtain ⟨g, e, r⟩ := h
    exact ⟨g, e, Rw.far r hg (fun k e => by injection e with e; omega)⟩
  · exact h
  · obtain ⟨g, e, r⟩ := h
    exact ⟨g, e, by omega⟩
  · obtain ⟨g, e, r⟩ := h
    exact ⟨g, e, Rw.far r hg (fun k e => by injection e with e; omega)⟩
  · obtain ⟨v, a, g, e, h0, h1, h2, r⟩ := h
    exact ⟨v, a, g, e, h0, h1, by omega, Rw.far r hg (fun k e => by injection e with e; omega)⟩
  · obtain ⟨g, a, b, c, e, h0, r⟩ := h
    exact ⟨g, a, b, c, e, h0, bx_far r hg (by omega)⟩
  · obtain ⟨k, v, a, g, e, h0, h1, h2, h3, h4, r⟩ := h
    exact ⟨k, v, a, g, e, h0, bx_far h1 hg (by omega), h2, h3, by omega, Rw.far r hg (fun k e => by injection e with e; omega)⟩
  · trivial
theorem FSh.below {B rb j : Nat} {x : Value} {W W' : World} (h : FSh B rb j x W) (hg : Below W.heap.size W W') (hb : rb < B) : FSh B rb j x W' := h.grown (grown_below hg _) hb
/-- The reader, and what is as it was. -/
def GSh (W1 : World) (rb p : Nat) (l : Nat → Bool) (W : World) : Prop := W1.grownBy W (some rb) ∧ ∃ q, Rd W rb q ∧ q ≤ p + 1 ∧ (l 2 = false → q = p)
theorem GSh.below {W1 W W' : World} {rb p : Nat} {l l' : Nat → Bool} (h : GSh W1 rb p l W) (hg : Below W.heap.size W W') (hl : l' 2 = l 2) : GSh W1 rb p l' W' := by
  obtain ⟨h1, q, h2, h3, h4⟩ := h
  exact ⟨grown_ext h1 hg, q, h2.ext hg, h3, by rw [hl]; exact h4⟩
/-- The share stored into its block. -/
theorem FSh.put {B rb j k : Nat} {x a0 b0 c0 a b c : Value} {W : World} (bx : Bx W k a0 b0 c0) (h : FSh B rb j x W) (hj : j ≠ 7) : FSh B rb j x (((W.setCell ⟨k, 0, none⟩ a).setCell ⟨k, 1, none⟩ b).setCell ⟨k, 2, none⟩ c) := by
  have hs := set3_grown0 W k a b c
  have hz := hs.size
  have ap : ∀ {g : Nat} {us : List Int}, RwI W B (some ⟨g, 0, none⟩) 5 us → RwI (((W.setCell ⟨k, 0, none⟩ a).setCell ⟨k, 1, none⟩ b).setCell ⟨k, 2, none⟩ c) B (some ⟨g, 0, none⟩) 5 us := fun r => Rw.apart r hs (fun q hq e => by injection e with e; exact bx_ne_row bx r q hq e.symm)
  unfold FSh at h ⊢
  split at h
  · exact h
  · obtain ⟨g, e, r⟩ := h
    exact ⟨g, e, ap r⟩
  · exact h
  · obtain ⟨g, e, r⟩ := h
    exact ⟨g, e, by omega⟩
  · obtain ⟨g, e, r⟩ := h
    exact ⟨g, e, ap r⟩
  · obtain ⟨v, a, g, e, h0, h1, h2, r⟩ := h
    exact ⟨v, a, g, e, h0, h1, by omega, ap r⟩
  · obtain ⟨g, a1, b1, c1, e, h0, r⟩ := h
    by_cases hg : g = k
    · subst hg
      exact ⟨g, a, b, c, e, h0, by unfold Bx at r ⊢; simp [World.setCell, Array.getElem?_modify, r]⟩
    · exact ⟨g, a1, b1, c1, e, h0, bx_far r hs hg⟩
  · exact absurd rfl hj
  · trivial
theorem rwI_made (W : World) (B : Nat) (cs : List Int) (hl : cs.length ≤ 1000) (hB : B ≤ W.heap.size) : RwI (W.alloc (.cells (ci cs).toArray 3)) B (some ⟨W.heap.size, 0, none⟩) cs.length cs :=
  ⟨slI_made W 3 cs hl, fun _ => ⟨_, _, rfl, hB, heap_alloc_new W _⟩⟩
theorem keepF {B rb : Nat} {l : Nat → Bool} {u : Nat → Value} {W W' : World} {i : Nat} (hF : ∀ j, l j = true → FSh B rb j (u (if j = 7 then 6 else j)) W) (hl : l i = false) (hni : i = 6 → l 7 = false) (v : Value) (st : ∀ j x, FSh B rb j x W → FSh B rb j x W') :
    ∀ j, l j = true → FSh B rb j (upd u i v (if j = 7 then 6 else j)) W' := fun j hj => by
  have hne : (if j = 7 then 6 else j) ≠ i := by
    split
    · rename_i e; subst e
      intro e; rw [hni e.symm] at hj; cases hj
    · intro e; subst e; rw [hl] at hj; cases hj
  rw [upd_ne u v hne]
  exact st _ _ (hF j hj)
/-- A share and a word, in new memory. -/
def ShA (n B : Nat) (x : Value) (W : World) : Prop :=
  ∃ (t : Int) (P : Option Addr) (p : Nat) (us : List Int) (R : Option Addr) (r : Nat) (zs : List Int) (b : Bool), x = .tuple #[.agg #[.int .i64 t, .slice P us.length p, .slice R zs.length r], .bool b] ∧ 0 ≤ t ∧ t ≤ 20 ∧ us.length ≤ n ∧ zs.length ≤ n ∧ RwI W B P p us ∧ RwI W B R r zs
theorem shA_of {t : Int} {xs ys : List Int} {oi : Int} {W W' : World} {e : Ending} {n B : Nat} (h : ShO (AD t xs ys oi 1) t xs W e W') (h1 : xs.length ≤ n) (h2 : ys.length ≤ n) (hB : B ≤ W.heap.size) :
    ∃ x, e = .returned x ∧ ShA n B x W' ∧ Below W.heap.size W W' := by
  cases ho : AD t xs ys oi 1 with
  | none =>
    rw [ho] at h
    obtain ⟨rfl, hb⟩ := h
    exact ⟨_, rfl, ⟨0, none, 0, [], none, 0, [], false, rfl, by omega, by omega, by simp, by simp, rwI_nil _ _ _ _ (by decide), rwI_nil _ _ _ _ (by decide)⟩, hb⟩
  | some zs =>
    rw [ho] at h
    obtain ⟨P, p, R, r, rfl, rP, rR, -, hb⟩ := h
    unfold AD at ho
    split at ho
    · rename_i hh
      injection ho with ho
      have V := valid_iff.1 hh.1
      have hl : zs.length = ys.length := by rw [← ho, chg_len]
      exact ⟨_, rfl, ⟨t, P, p, xs, R, r, zs, true, rfl, V.t0, V.t1, h1, by omega, rP.low hB, rR.low hB⟩, hb⟩
    · cases ho
theorem ShA.grown {n B rb : Nat} {x : Value} {W W' : World} (h : ShA n B x W) (hg : W.grownBy W' (some rb)) (hb : rb < B) : ShA n B x W' := by
  obtain ⟨t, P, p, us, R, r, zs, b, e, h0, h1, h2, h3, h4, h5⟩ := h
  exact ⟨t, P, p, us, R, r, zs, b, e, h0, h1, h2, h3, Rw.far h4 hg (fun k e => by injection e with e; omega), Rw.far h5 hg (fun k e => by injection e with e; omega)⟩
theorem ShA.put {n B k : Nat} {x a0 b0 c0 a b c : Value} {W : World} (bx : Bx W k a0 b0 c0) (h : ShA n B x W) : ShA n B x (((W.setCell ⟨k, 0, none⟩ a).setCell ⟨k, 1, none⟩ b).setCell ⟨k, 2, none⟩ c) := by
  have hs := set3_grown0 W k a b c
  obtain ⟨t, P, p, us, R, r, zs, b, e, h0, h1, h2, h3, h4, h5⟩ := h
  exact ⟨t, P, p, us, R, r, zs, b, e, h0, h1, h2, h3, Rw.apart h4 hs (fun q hq e => by injection e with e; exact bx_ne_row bx h4 q hq e.symm), Rw.apart h5 hs (fun q hq e => by injection e with e; exact bx_ne_row bx h5 q hq e.symm)⟩
/-- A share alone, in new memory. -/
def ShB (n B : Nat) (x : Value) (W : World) : Prop := ∃ b : Bool, ShA n B (.tuple #[x, .bool b]) W
/-- What the operations of a give leave. -/
def FGv (s : Value) (n B rb : Nat) (j : Nat) (x : Value) (W : World) : Prop :=
  match j with
  | 0 => x = s
  | 1 => x = .pointer (some ⟨rb, 0, none⟩)
  | 2 => ∃ m : Int, x = .int .i64 m ∧ 0 ≤ m ∧ m < 5
  | 3 => ShA n B x W
  | 4 => ShA n B x W
  | 5 => ShB n B x W
  | 6 => ∃ b : Bool, x = .bool b
  | 7 => ∃ (g : Nat) (a b c : Value), x = .pointer (some ⟨g, 0, none⟩) ∧ B ≤ g ∧ Bx W g a b c
  | 8 => ∃ (g : Nat) (a b c : Value), x = .pointer (some ⟨g, 0, none⟩) ∧ B ≤ g ∧ Bx W g a b c ∧ ShB n B (.agg #[a, b, c]) W
  | 9 => ∃ b : Bool, x = .bool b
  | _ => True
theorem FGv.grown {s : Value} {n B rb j : Nat} {x : Value} {W W' : World} (h : FGv s n B rb j x W) (hg : W.grownBy W' (some rb)) (hb : rb < B) : FGv s n B rb j x W' := by
  unfold FGv at h ⊢
  split at h
  · exact h
  · exact h
  · exact h
  · exact h.grown hg hb
  · exact h.grown hg hb
  · obtain ⟨b, h⟩ := h; exact ⟨b, h.grown hg hb⟩
  · exact h
  · obtain ⟨g, a, b, c, e, h0, r⟩ := h
    exact ⟨g, a, b, c, e, h0, bx_far r hg (by omega)⟩
  · obtain ⟨g, a, b, c, e, h0, r, b', h⟩ := h
    exact ⟨g, a, b, c, e, h0, bx_far r hg (by omega), b', h.grown hg hb⟩
  · exact h
  · trivial
theorem FGv.below {s : Value} {n B rb j : Nat} {x : Value} {W W' : World} (h : FGv s n B rb j x W) (hg : Below W.heap.size W W') (hb : rb < B) : FGv s n B rb j x W' := h.grown (grown_below hg _) hb
theorem FGv.put {s : Value} {n B rb j k : Nat} {x a0 b0 c0 a b c : Value} {W : World} (bx : Bx W k a0 b0 c0) (h : FGv s n B rb j x W) (hj : j ≠ 8) : FGv s n B rb j x (((W.setCell ⟨k, 0, none⟩ a).setCell ⟨k, 1, none⟩ b).setCell ⟨k, 2, none⟩ c) := by
  have hs := set3_grown0 W k a b c
  unfold FGv at h ⊢
  split at h
  · exact h
  · exact h
  · exact h
  · exact h.put bx
  · exact h.put bx
  · obtain ⟨b, h⟩ := h; exact ⟨b, h.put bx⟩
  · exact h
  · obtain ⟨g, a1, b1, c1, e, h0, r⟩ := h
    by_cases hg : g = k
    · subst hg
      exact ⟨g, a, b, c, e, h0, by unfold Bx at r ⊢; simp [World.setCell, Array.getElem?_modify, r]⟩
    · exact ⟨g, a1, b1, c1, e, h0, bx_far r hs hg⟩
  · exact absurd rfl hj
  · exact h
  · trivial
theorem keepV {s : Value} {n B rb : Nat} {l : Nat → Bool} {u : Nat → Value} {W W' : World} {i : Nat} (hF : ∀ j, l j = true → FGv s n B rb j (u (if j = 8 then 7 else j)) W) (hl : l i = false) (hni : i = 7 → l 8 = false) (v : Value) (st : ∀ j x, FGv s n B rb j x W → FGv s n B rb j x W') :
    ∀ j, l j = true → FGv s n B rb j (upd u i v (if j = 8 then 7 else j)) W' := fun j hj => by
  have hne : (if j = 8 then 7 else j) ≠ i := by
    split
    · rename_i e; subst e
      intro e; rw [hni e.symm] at hj; cases hj
    · intro e; subst e; rw [hl] at hj; cases hj
  rw [upd_ne u v hne]
  exact st _ _ (hF j hj)
/-- A share drawn. -/
def ShD (w : World) (rb p : Nat) (e : Ending) (w' : World) : Prop :=
  ∃ (t : Int) (P : Option Addr) (pc : Nat) (xs : List Int) (Q : Option Addr) (qc : Nat) (ys : List Int) (q : Nat), e = .returned (.agg #[.int .i64 t, .slice P xs.length pc, .slice Q ys.length qc]) ∧ -1 ≤ t ∧ t ≤ 21 ∧ SlI w' P pc xs ∧ SlI w' Q qc ys ∧ xs.length ≤ 100 ∧ ys.length ≤ 100 ∧ q ≤ p + 40 ∧ Rd w' rb q ∧ w.grownBy w' (some rb) ∧ (∀ j, rowOf P xs.length = some j → w.heap.size < j) ∧ (∀ j, rowOf Q ys.length = some j → w.heap.size < j)
section
variable {w : World} {g : Nat} {u v x a : Value}
theorem Bx.put0 (h : Bx w g u v x) : Bx (w.setCell ⟨g, 0, none⟩ a) g a v x := by unfold Bx at h ⊢; simp [World.setCell, Array.getElem?_modify, h]
theorem Bx.put1 (h : Bx w g u v x) : Bx (w.setCell ⟨g, 1, none⟩ a) g u a x := by unfold Bx at h ⊢; simp [World.setCell, Array.getElem?_modify, h]
theorem Bx.put2 (h : Bx w g u v x) : Bx (w.setCell ⟨g, 2, none⟩ a) g u v a := by unfold Bx at h ⊢; simp [World.setCell, Array.getElem?_modify, h]
theorem Bx.put3 {a b c : Value} (h : Bx w g u v x) : Bx (((w.setCell ⟨g, 0, none⟩ a).setCell ⟨g, 1, none⟩ b).setCell ⟨g, 2, none⟩ c) g a b c := h.put0.put1.put2
end
theorem put1_grown (w : World) (g i : Nat) (a : Value) : w.grownBy (w.setCell ⟨g, i, none⟩ a) (some g) :=
  ⟨rfl, rfl, rfl, by rw [setCell_size]; exact Nat.le_refl _, fun k _ hne => Below.heap_setCell w ⟨g, i, none⟩ a k (fun e => hne (by rw [e]))⟩
theorem RwI.put1 {w : World} {B g i c : Nat} {A : Option Addr} {us : List Int} {u v x a : Value} (h : RwI w B A c us) (bx : Bx w g u v x) : RwI (w.setCell ⟨g, i, none⟩ a) B A c us :=
  Rw.apart h (put1_grown w g i a) (fun q hq e => by injection e with e; exact bx_ne_row bx h q hq e.symm)
theorem RwI.put3 {w : World} {B g c : Nat} {A : Option Addr} {us : List Int} {u v x a b d : Value} (h : RwI w B A c us) (bx : Bx w g u v x) : RwI (((w.setCell ⟨g, 0, none⟩ a).setCell ⟨g, 1, none⟩ b).setCell ⟨g, 2, none⟩ d) B A c us :=
  Rw.apart h (set3_grown0 w g a b d) (fun q hq e => by injection e with e; exact bx_ne_row bx h q hq e.symm)
theorem grown_put1 {w1 w : World} {rb g i : Nat} {a : Value} (h : w1.grownBy w (some rb)) (hg : w1.heap.size ≤ g) : w1.grownBy (w.setCell ⟨g, i, none⟩ a) (some rb) := grown_step h (put1_grown w g i a) (fun k e => .inr (by injection e with e; omega))
theorem grown_put3 {w1 w : World} {rb g : Nat} {a b d : Value} (h : w1.grownBy w (some rb)) (hg : w1.heap.size ≤ g) : w1.grownBy (((w.setCell ⟨g, 0, none⟩ a).setCell ⟨g, 1, none⟩ b).setCell ⟨g, 2, none⟩ d) (some rb) := grown_step h (set3_grown0 w g a b d) (fun k e => .inr (by injection e with e; omega))
theorem rd_put1 {w : World} {rb p g i : Nat} {a : Value} (h : Rd w rb p) (hg : rb < g) : Rd (w.setCell ⟨g, i, none⟩ a) rb p := h.grown (put1_grown w g i a) (fun k e => by injection e with e; omega)
theorem rd_put3 {w : World} {rb p g : Nat} {a b d : Value} (h : Rd w rb p) (hg : rb < g) : Rd (((w.setCell ⟨g, 0, none⟩ a).setCell ⟨g, 1, none⟩ b).setCell ⟨g, 2, none⟩ d) rb p := h.grown (set3_grown0 w g a b d) (fun k e => by injection e with e; omega)
theorem row_of_addr {A : Option Addr} {n B : Nat} (h : ∀ ad, A = some ad → B ≤ ad.block) : ∀ j, rowOf A n = some j → B ≤ j := fun j hj => by
  unfold rowOf at hj
  split at hj
  · cases hj
  · cases A with
    | none => cases hj
    | some ad => injection hj with hj; subst hj; exact h ad rfl
theorem shD_done {w W1 X : World} {rb p q : Nat} {t : Int} {P Q : Option Addr} {pc qc : Nat} {xs ys : List Int} (hb1 : Below w.heap.size w W1) (hG : W1.grownBy X (some rb)) (hrb : rb < w.heap.size) (hr : Rd X rb q) (hq : q ≤ p + 40) (h0 : -1 ≤ t) (h1 : t ≤ 21) (sP : SlI X P pc xs) (sQ : SlI X Q qc ys) (hP : ∀ j, rowOf P xs.length = some j → w.heap.size < j) (hQ : ∀ j, rowOf Q ys.length = some j → w.heap.size < j) (l1 : xs.length ≤ 100) (l2 : ys.length ≤ 100) :
    ShD w rb p (.returned (.agg #[.int .i64 t, .slice P xs.length pc, .slice Q ys.length qc])) (((X.setCell ⟨w.heap.size, 0, none⟩ (.int .i64 t)).setCell ⟨w.heap.size, 1, none⟩ (.slice P xs.length pc)).setCell ⟨w.heap.size, 2, none⟩ (.slice Q ys.length qc)) := by
  have hs3 := set3_grown0 X w.heap.size (.int .i64 t) (.slice P xs.length pc) (.slice Q ys.length qc)
  refine ⟨t, P, pc, xs, Q, qc, ys, q, rfl, h0, h1, Sl.apart sP hs3 (fun j hj e => by injection e with e; have := hP j hj; omega), Sl.apart sQ hs3 (fun j hj e => by injection e with e; have := hQ j hj; omega), l1, l2, hq, rd_put3 hr hrb, ?_, hP, hQ⟩
  exact grown_step (grown_step (grown_below hb1 (some rb)) hG (fun k e => .inl e)) hs3 (fun k e => .inr (by injection e with e; omega))
set_option maxRecDepth 100000 in
set_option maxHeartbeats 4000000 in
theorem anyShare_any (rb p : Nat) (w : World) (hrd : Rd w rb p) (hq : p ≤ 900000) :
    Calls Try.prog 30 #[.pointer (some ⟨rb, 0, none⟩)] w (ShD w rb p) := by
  have hz2 := hrd.lt
  have hmk5 := mk5
  obtain ⟨W1, hW1⟩ : ∃ W1, W1 = w.alloc (.cells #[.int .i64 0, .slice none 0 0, .slice none 0 0] 25) := ⟨_, rfl⟩
  have hb1 : Below w.heap.size w W1 := by rw [hW1]; exact ext_alloc (Below.refl _ _) _
  have hs1 : rb < W1.heap.size := by have := hb1.size; omega
  go_enter Try.func30, Try.ntmps30
  go_wp2_with fail
  go_upto_region 1 with fail
  rw [← hW1]
  go_cut [3] (fun s3 wx => FSh W1.heap.size rb 7 s3 wx ∧ GSh W1 rb p (fun j => decide (j < 8)) wx)
  case first =>
    refine wp_region_facts [(0, 8), (1, 9), (2, 10), (3, 11), (4, 12), (5, 13), (6, 3)] (fun j u W => FSh W1.heap.size rb j (u (if j = 7 then 6 else j)) W) (GSh W1 rb p) (fun _ => undef) (by kernel_rfl) (by kernel_rfl) (by rfl) ⟨⟨rfl, rfl, rfl, Nat.le_refl _, fun _ _ _ => rfl⟩, p, hrd.ext (ext_drew hb1), by omega, fun _ => rfl⟩ ?_ ?_
    · intro l u W hG hF hcl i o ho hl hall
      rcases i with _ | _ | _ | _ | _ | _ | _ | _ | i
      · have ho0 := ho
        simp only [List.getElem?_toArray, List.getElem?_cons_zero, List.getElem?_cons_succ, Option.some.injEq] at ho
        subst ho
        refine wpOp_step ho0 (fun K hK => ?_)
        clear ho0
        simp only [putAll, Act.put, List.setIfInBounds_toArray, List.set_cons_zero, List.set_cons_succ] at hK ⊢
        go_simp
        exact hK _ _ ⟨upd u 0 _, rfl, keepF hF hl (by omega) _ (fun _ _ h => h), rfl, hG.below (Below.refl _ _) rfl⟩
      · have ho0 := ho
        simp only [List.getElem?_toArray, List.getElem?_cons_zero, List.getElem?_cons_succ, Option.some.injEq] at ho
        subst ho
        refine wpOp_step ho0 (fun K hK => ?_)
        clear ho0
        simp only [putAll, Act.put, List.setIfInBounds_toArray, List.set_cons_zero, List.set_cons_succ] at hK ⊢
        go_simp
        exact hK _ _ ⟨upd u 1 _, rfl, keepF hF hl (by omega) _ (fun _ _ h => h.below (ext_alloc (Below.refl _ _) _) hs1), ⟨_, rfl, rwI_made W _ [6, 10, 20, 3, 0] (by decide) hG.1.size⟩, hG.below (ext_alloc (Below.refl _ _) _) rfl⟩
      · have ho0 := ho
        simp only [List.getElem?_toArray, List.getElem?_cons_zero, List.getElem?_cons_succ, Option.some.injEq] at ho
        subst ho
        refine wpOp_step ho0 (fun K hK => ?_)
        clear ho0
        simp only [putAll, Act.put, List.setIfInBounds_toArray, List.set_cons_zero, List.set_cons_succ] at hK ⊢
        have e0 : u 0 = _ := hF 0 (hall ⟨0, .data⟩ (by simp) rfl)
        obtain ⟨g, e1, r1⟩ := hF 1 (hall ⟨1, .data⟩ (by simp) rfl)
        replace e1 : u 1 = _ := e1
        obtain ⟨hg, q, hr, hq1, hq2⟩ := hG
        have hqp := hq2 hl
        subst hqp
        have hgB := (Rw.row r1 g (rowOf_some (by decide))).1
        simp only [e0, e1]
        go_simp
        refine (one_any rb q (some ⟨g, 0, none⟩) 5 [6, 10, 20, 3, 0] W hr (by omega) r1.sl (by decide) (by decide) (fun ad e => by injection e with e; subst e; show g ≠ rb; omega)).mono ?_
        rintro e w3 ⟨v, rfl, hv, hrd3, hg3, hz3⟩
        have hvb : 0 ≤ v ∧ v ≤ 20 := by simp at hv; omega
        refine hK _ _ ⟨upd u 2 (.int .i64 v), by simp only [upd, e0, e1]; rfl, keepF hF hl (by omega) _ (fun _ _ h => h.grown hg3 hs1), ⟨v, rfl, hvb⟩, grown_same hg hg3, _, hrd3, by omega, fun h => by cases h⟩
      · have ho0 := ho
        simp only [List.getElem?_toArray, List.getElem?_cons_zero, List.getElem?_cons_succ, Option.some.injEq] at ho
        subst ho
        refine wpOp_step ho0 (fun K hK => ?_)
        clear ho0
        simp only [putAll, Act.put, List.setIfInBounds_toArray, List.set_cons_zero, List.set_cons_succ] at hK ⊢
        go_simp
        exact hK _ _ ⟨upd u 3 _, rfl, keepF hF hl (by omega) _ (fun _ _ h => h.below (ext_alloc (Below.refl _ _) _) hs1), ⟨_, rfl, by simp⟩, hG.below (ext_alloc (Below.refl _ _) _) rfl⟩
      · have ho0 := ho
        simp only [List.getElem?_toArray, List.getElem?_cons_zero, List.getElem?_cons_succ, Option.some.injEq] at ho
        subst ho
        refine wpOp_step ho0 (fun K hK => ?_)
        clear ho0
        simp only [putAll, Act.put, List.setIfInBounds_toArray, List.set_cons_zero, List.set_cons_succ] at hK ⊢
        go_simp
        exact hK _ _ ⟨upd u 4 _, rfl, keepF hF hl (by omega) _ (fun _ _ h => h.below (ext_alloc (Below.refl _ _) _) hs1), ⟨_, rfl, rwI_made W _ [0, 0, 0, 0, 0] (by decide) hG.1.size⟩, hG.below (ext_alloc (Below.refl _ _) _) rfl⟩
      · have ho0 := ho
        simp only [List.getElem?_toArray, List.getElem?_cons_zero, List.getElem?_cons_succ, Option.some.injEq] at ho
        subst ho
        refine wpOp_step ho0 (fun K hK => ?_)
        clear ho0
        simp only [putAll, Act.put, List.setIfInBounds_toArray, List.set_cons_zero, List.set_cons_succ] at hK ⊢
        obtain ⟨v, e2, hv0, hv1⟩ := hF 2 (hall ⟨2, .data⟩ (by simp) rfl)
        obtain ⟨a, e3, ha⟩ := hF 3 (hall ⟨3, .data⟩ (by simp) rfl)
        obtain ⟨g, e4, r4⟩ := hF 4 (hall ⟨4, .data⟩ (by simp) rfl)
        replace e2 : u 2 = _ := e2
        replace e3 : u 3 = _ := e3
        replace e4 : u 4 = _ := e4
        simp only [e2, e3, e4]
        go_simp
        exact hK _ _ ⟨upd u 5 (.agg #[.int .i64 v, .slice (some ⟨a, 0, none⟩) 0 0, .slice (some ⟨g, 0, none⟩) 5 5]), by simp only [upd, e2, e3, e4]; rfl, keepF hF hl (by omega) _ (fun _ _ h => h), ⟨v, a, g, rfl, hv0, hv1, ha, r4⟩, hG.below (Below.refl _ _) rfl⟩
      · have ho0 := ho
        simp only [List.getElem?_toArray, List.getElem?_cons_zero, List.getElem?_cons_succ, Option.some.injEq] at ho
        subst ho
        refine wpOp_step ho0 (fun K hK => ?_)
        clear ho0
        simp only [putAll, Act.put, List.setIfInBounds_toArray, List.set_cons_zero, List.set_cons_succ] at hK ⊢
        have h7 : l 7 = false := by
          cases h7 : l 7 with
          | false => rfl
          | true => exact absurd (hcl 7 _ rfl h7 ⟨6, .data⟩ (by simp) rfl) (by rw [hl]; decide)
        go_simp
        exact hK _ _ ⟨upd u 6 _, rfl, keepF hF hl (fun _ => h7) _ (fun _ _ h => h.below (ext_alloc (Below.refl _ _) _) hs1), ⟨_, _, _, _, rfl, hG.1.size, Bx.new _ _ _ _⟩, hG.below (ext_alloc (Below.refl _ _) _) rfl⟩
      · have ho0 := ho
        simp only [List.getElem?_toArray, List.getElem?_cons_zero, List.getElem?_cons_succ, Option.some.injEq] at ho
        subst ho
        refine wpOp_step ho0 (fun K hK => ?_)
        clear ho0
        simp only [putAll, Act.put, List.setIfInBounds_toArray, List.set_cons_zero, List.set_cons_succ] at hK ⊢
        obtain ⟨v, a, g, e5, hv0, hv1, ha, r5⟩ := hF 5 (hall ⟨5, .data⟩ (by simp) rfl)
        obtain ⟨k, x, y, z, e6, hk, bx⟩ := hF 6 (hall ⟨6, .data⟩ (by simp) rfl)
        replace e5 : u 5 = _ := e5
        replace e6 : u 6 = _ := e6
        simp only [e5, e6]
        have c0 := bx.c0
        have c1 := bx.c1
        have c2 := bx.c2
        have y0 := bx.free 0
        have y1 := bx.free 1
        have y2 := bx.free 2
        go_simp
        have hs3 := set3_grown0 W k (.int .i64 v) (.slice (some ⟨a, 0, none⟩) 0 0) (.slice (some ⟨g, 0, none⟩) 5 5)
        obtain ⟨hg, q, hr, hq1, hq2⟩ := hG
        have hkr : rb < k := by omega
        refine hK _ _ ⟨u, by simp only [e5, e6], fun j hj => ?_, ?_, grown_step hg hs3 (fun j e => .inr (by injection e with e; omega)), q, hr.grown hs3 (fun j e => by injection e with e; omega), hq1, hq2⟩
        · have hj7 : j ≠ 7 := fun e => by subst e; rw [hl] at hj; cases hj
          exact FSh.put bx (hF j hj) hj7
        · refine ⟨k, v, a, g, e6, hk, ?_, hv0, hv1, by have := hs3.size; omega, ?_⟩
          · unfold Bx at bx ⊢; simp [World.setCell, Array.getElem?_modify, bx]
          · exact Rw.apart r5 hs3 (fun q hq e => by injection e with e; exact bx_ne_row bx r5 q hq e.symm)
      · simp at ho
    · intro u W hF hG
      have h7 := hF 7 (by decide)
      simp only [putAll, Act.put, List.setIfInBounds_toArray, List.set_cons_zero, List.set_cons_succ]
      go_wp2_with fail
      go_meet
      exact ⟨h7, hG⟩
  case rest =>
    obtain ⟨⟨k, v, a, g, rfl, hkB, bx, hv0, hv1, ha, rQ⟩, hG, q, hr, hq1, -⟩ := hcut
    have BZ := hd (show Bx W1 w.heap.size (.int .i64 0) (.slice none 0 0) (.slice none 0 0) by rw [hW1]; exact Bx.new w _ _ _)
    have HB1 := hd hb1
    have hlw : w.heap.size < W1.heap.size := BZ.out.lt
    have rP : RwI wc W1.heap.size (some ⟨a, 0, none⟩) 0 [] := rwI_nil _ _ _ _ (by decide)
    have hkr : k ≠ rb := by omega
    have hrk : rb < k := by omega
    clear hW1 hmk5 ha hb1 hrd
    go_wp2_with fail
    go_loopw [4] (fun i wr => ∃ (o : Nat) (A : Option Addr) (c : Nat) (us : List Int) (q : Nat), i = .int .i64 o ∧ o ≤ 5 ∧ us.length ≤ o ∧ q ≤ p + 1 + o ∧ Rd wr rb q ∧ Bx wr k (.int .i64 v) (.slice A us.length c) (.slice (some ⟨g, 0, none⟩) 5 5) ∧ RwI wr W1.heap.size A c us ∧ RwI wr W1.heap.size (some ⟨g, 0, none⟩) 5 [0, 0, 0, 0, 0] ∧ W1.grownBy wr (some rb)) (fun i _ => 5 - (intOf i).toNat)
    case atStart => exact ⟨0, some ⟨a, 0, none⟩, 0, [], q, rfl, by omega, by simp, by omega, hr, bx, rP, rQ, hG⟩
    case round =>
      clear hr bx rP rQ hG hq1
      obtain ⟨o, A, c, us, q, rfl, ho, hlu, hq', hr, bx, rP, rQ, hG⟩ := hrel
      have hz := hG.size
      by_cases hlt : o < 5
      · have b1 := bx.c1
        have hkl := bx.lt
        have hgl := (Rw.row rQ g (rowOf_some (by decide))).2
        go_wp2_with fail
        refine (copyIntsO_any A c us wr rP.sl (by omega)).mono ?_
        rintro e wa ⟨vv, rfl, hown, hx⟩
        replace hr := hr.ext hx; replace bx := bx.ext hx; replace rQ := rQ.ext hx; replace hG := grown_ext hG hx
        have hza := hx.size
        clear b1 hx rP
        go_wp2_with fail
        refine (one_any rb q (some ⟨wa.heap.size, 0, none⟩) 6 [2, 3, 5, 1, 0, 20] _ (hr.ext (ext_alloc (Below.refl _ _) _)) (by omega) (slI_made wa 3 [2, 3, 5, 1, 0, 20] (by decide)) (by decide) (by decide) (fun ad e => by injection e with e; subst e; show wa.heap.size ≠ rb; omega)).mono ?_
        rintro e wb ⟨x, rfl, -, hrb, hgb, -⟩
        have hgab : wa.grownBy wb (some rb) := grown_same (World.grownBy_alloc wa _ _) hgb
        replace hown := own_far hown hgab (by omega); replace bx := bx_far bx hgab hkr; replace rQ := Rw.far rQ hgab (fun j e => by injection e with e; omega); replace hG := grown_same hG hgab
        have hzb := hgab.size
        clear hr hgb hgab
        go_wp2_with (at_builtin; refine wpList_app eltI _ _ (news := ci [x]) (m := 1) hown rfl (ci_one _) (by omega) (by omega) (by omega) (by rfl) (by rfl) (by rfl) (by rfl) ?_; intro v' w4 hown4 hg4; obtain ⟨us', hu'⟩ : ∃ us', us' = us ++ [x] := ⟨_, rfl⟩; obtain ⟨A2, c2, rfl, r4⟩ := rwI_of_own hown4 (show ci us ++ ci [x] = ci us' by rw [hu', ci_append]) (show us.length + 1 = us'.length by rw [hu']; simp); have HU := hd hu'; clear hu'; have hge := own_ge hown; have bx4 := (hg4.block k bx.lt (fun e => by have := hge k e.symm; omega)).trans bx; replace bx4 : Bx w4 k (.int .i64 v) (.slice A us.length c) (.slice (some ⟨g, 0, none⟩) 5 5) := bx4; have z1 := bx4.c1; have y1 := bx4.free 1)
        go_roundw
        case rel =>
          have rQ4 := Rw.apart rQ hg4 (fun j hj e => by rw [rowOf_some (by decide)] at hj; injection hj with hj; have := hge j e; omega)
          exact ⟨o + 1, A2, c2, us', q + 1, by go_num, by omega, by rw [HU.out]; simp; omega, by omega, rd_put1 (hrb.grown hg4 (fun j hj => by have := hge j hj; omega)) hrk, bx4.put1, (r4.low hz).put1 bx4, RwI.put1 rQ4 bx4, grown_put1 (grown_step hG hg4 (fun j hj => .inr (by have := hge j hj; omega))) hkB⟩
        case measure => simp [intOf]; omega
      · obtain rfl : o = 5 := by omega
        go_wp2_with fail
        refine (one_any rb q (some ⟨wr.heap.size, 0, none⟩) 5 [4, 6, 2, 0, 12] _ (hr.ext (ext_alloc (Below.refl _ _) _)) (by omega) (slI_made wr 3 [4, 6, 2, 0, 12] (by decide)) (by decide) (by decide) (fun ad e => by injection e with e; subst e; show wr.heap.size ≠ rb; omega)).mono ?_
        rintro e w5 ⟨n, rfl, hnm, hr5, hg5, -⟩
        have hn : 0 ≤ n ∧ n ≤ 12 := by simp at hnm; omega
        have hgab : wr.grownBy w5 (some rb) := grown_same (World.grownBy_alloc wr _ _) hg5
        replace bx := bx_far bx hgab hkr; replace rP := Rw.far rP hgab (fun j e => by injection e with e; omega); replace rQ := Rw.far rQ hgab (fun j e => by injection e with e; omega); replace hG := grown_same hG hgab
        have n0 := hn.1
        have n1 := hn.2
        clear hr hg5 hgab hnm hn hz
        go_wp2_with fail
        obtain ⟨w6, hw6⟩ : ∃ x, x = wr := ⟨_, rfl⟩
        clear hw6
        go_loopw [5, 6, 7] (fun i _ _ wr => ∃ (n t : Int) (A : Option Addr) (c : Nat) (us : List Int) (B : Option Addr) (d : Nat) (zs : List Int) (q : Nat), i = .int .i64 n ∧ 0 ≤ n ∧ n ≤ 12 ∧ 0 ≤ t ∧ t ≤ 20 ∧ (q : Int) + n ≤ p + 19 ∧ us.length ≤ 5 ∧ zs.length ≤ 5 ∧ Rd wr rb q ∧ Bx wr k (.int .i64 t) (.slice A us.length c) (.slice B zs.length d) ∧ RwI wr W1.heap.size A c us ∧ RwI wr W1.heap.size B d zs ∧ W1.grownBy wr (some rb)) (fun i _ _ _ => (intOf i).toNat)
        case atStart => exact ⟨n, v, A, c, us, some ⟨g, 0, none⟩, 5, [0, 0, 0, 0, 0], q + 1, rfl, n0, n1, hv0, hv1, by omega, by omega, by decide, hr5, bx, rP, rQ, hG⟩
        case round =>
          clear bx rP rQ hG hr5 n0 n1
          obtain ⟨n, t, A, c, us, B, d, zs, q, rfl, n0, n1, t0, t1, hq2, l1, l2, hr, bx, rP, rQ, hG⟩ := hrel
          have hz := hG.size
          have hkl := bx.lt
          have hrl := hr.lt
          by_cases hlt : 0 < n
          · go_upto_region 9 with fail
            go_cut [6, 7] (fun s6 s7 wx => (∃ (g : Nat) (a b c : Value), s6 = .pointer (some ⟨g, 0, none⟩) ∧ wr.heap.size ≤ g ∧ Bx wx g a b c ∧ ShB 5 wr.heap.size (.agg #[a, b, c]) wx) ∧ (∃ b : Bool, s7 = .bool b) ∧ GSh wr rb q (fun j => decide (j < 10)) wx)
            case first =>
              refine wp_region_facts [(0, 35), (1, 36), (2, 37), (3, 38), (4, 34), (5, 39), (6, 40), (7, 6), (9, 7)] (fun j u W => FGv (.agg #[.int .i64 t, .slice A us.length c, .slice B zs.length d]) 5 wr.heap.size rb j (u (if j = 8 then 7 else j)) W) (GSh wr rb q) (fun i => (#[u35, u36, u37, u38, u34, u39, u40, u6, undef, u7] : Array Value).getD i undef) (by kernel_rfl) (by kernel_rfl) (by simp [putAll, Act.put]) ⟨⟨rfl, rfl, rfl, Nat.le_refl _, fun _ _ _ => rfl⟩, q, hr.ext (ext_drew (Below.refl _ _)), by omega, fun _ => rfl⟩ ?_ ?_
              · intro l u W hG hF hcl i o ho hl hall
                rcases i with _ | _ | _ | _ | _ | _ | _ | _ | _ | _ | i
                · have ho0 := ho
                  simp only [List.getElem?_toArray, List.getElem?_cons_zero, List.getElem?_cons_succ, Option.some.injEq] at ho
                  subst ho
                  refine wpOp_step ho0 (fun K hK => ?_)
                  clear ho0
                  simp only [putAll, Act.put, List.setIfInBounds_toArray, List.set_cons_zero, List.set_cons_succ] at hK ⊢
                  have bxW := bx_far bx hG.1 hkr
                  have c0 := bxW.c0
                  have c1 := bxW.c1
                  have c2 := bxW.c2
                  go_simp
                  exact hK _ _ ⟨upd u 0 _, rfl, keepV hF hl (by omega) _ (fun _ _ h => h), rfl, hG.below (Below.refl _ _) rfl⟩
                · have ho0 := ho
                  simp only [List.getElem?_toArray, List.getElem?_cons_zero, List.getElem?_cons_succ, Option.some.injEq] at ho
                  subst ho
                  refine wpOp_step ho0 (fun K hK => ?_)
                  clear ho0
                  simp only [putAll, Act.put, List.setIfInBounds_toArray, List.set_cons_zero, List.set_cons_succ] at hK ⊢
                  go_simp
                  exact hK _ _ ⟨upd u 1 _, rfl, keepV hF hl (by omega) _ (fun _ _ h => h), rfl, hG.below (Below.refl _ _) rfl⟩
                · have ho0 := ho
                  simp only [List.getElem?_toArray, List.getElem?_cons_zero, List.getElem?_cons_succ, Option.some.injEq] at ho
                  subst ho
                  refine wpOp_step ho0 (fun K hK => ?_)
                  clear ho0
                  simp only [putAll, Act.put, List.setIfInBounds_toArray, List.set_cons_zero, List.set_cons_succ] at hK ⊢
                  have e1 : u 1 = _ := hF 1 (hall ⟨1, .data⟩ (by simp) rfl)
                  obtain ⟨hg, q', hr', hq1', hq2'⟩ := hG
                  have hqp := hq2' hl
                  subst hqp
                  simp only [e1]
                  go_simp
                  refine (pick_any rb q' 5 W hr' (by omega) (by omega)).mono ?_
                  rintro e w3 ⟨m, rfl, hm0, hm1, hrd3, hg3, hz3⟩
                  exact hK _ _ ⟨upd u 2 (.int .i64 m), by simp only [upd, e1]; rfl, keepV hF hl (by omega) _ (fun _ _ h => h.grown hg3 hrl), ⟨m, rfl, hm0, hm1 (by omega)⟩, grown_same hg hg3, _, hrd3, by omega, fun h => by cases h⟩
                · have ho0 := ho
                  simp only [List.getElem?_toArray, List.getElem?_cons_zero, List.getElem?_cons_succ, Option.some.injEq] at ho
                  subst ho
                  refine wpOp_step ho0 (fun K hK => ?_)
                  clear ho0
                  simp only [putAll, Act.put, List.setIfInBounds_toArray, List.set_cons_zero, List.set_cons_succ] at hK ⊢
                  have e0 : u 0 = _ := hF 0 (hall ⟨0, .data⟩ (by simp) rfl)
                  obtain ⟨m, e2, hm0, hm1⟩ := hF 2 (hall ⟨2, .data⟩ (by simp) rfl)
                  replace e2 : u 2 = _ := e2
                  simp only [e0, e2]
                  go_simp
                  have sP := (Rw.far rP hG.1 (fun j e => by injection e with e; omega)).1
                  have sQ := (Rw.far rQ hG.1 (fun j e => by injection e with e; omega)).1
                  refine (sgv_any t A c us B d zs m W sP sQ).mono ?_
                  intro e w3 hS
                  obtain ⟨x, rfl, hx, hb3⟩ := shA_of (n := 5) hS l1 l2 hG.1.size
                  exact hK _ _ ⟨upd u 3 x, by simp only [upd, e0, e2]; rfl, keepV hF hl (by omega) _ (fun _ _ h => h.below hb3 hrl), hx, hG.below hb3 rfl⟩
                · have ho0 := ho
                  simp only [List.getElem?_toArray, List.getElem?_cons_zero, List.getElem?_cons_succ, Option.some.injEq] at ho
                  subst ho
                  refine wpOp_step ho0 (fun K hK => ?_)
                  clear ho0
                  simp only [putAll, Act.put, List.setIfInBounds_toArray, List.set_cons_zero, List.set_cons_succ] at hK ⊢
                  obtain ⟨t', P', p', us', R', r', zs', b', e3, hr3⟩ : ShA 5 wr.heap.size (u 3) W := hF 3 (hall ⟨3, .data⟩ (by simp) rfl)
                  simp only [e3]
                  go_simp
                  exact hK _ _ ⟨upd u 4 _, by simp only [upd, e3]; rfl, keepV hF hl (by omega) _ (fun _ _ h => h), ⟨t', P', p', us', R', r', zs', b', rfl, hr3⟩, hG.below (Below.refl _ _) rfl⟩
                · have ho0 := ho
                  simp only [List.getElem?_toArray, List.getElem?_cons_zero, List.getElem?_cons_succ, Option.some.injEq] at ho
                  subst ho
                  refine wpOp_step ho0 (fun K hK => ?_)
                  clear ho0
                  simp only [putAll, Act.put, List.setIfInBounds_toArray, List.set_cons_zero, List.set_cons_succ] at hK ⊢
                  obtain ⟨t', P', p', us', R', r', zs', b', e4, hr4⟩ : ShA 5 wr.heap.size (u 4) W := hF 4 (hall ⟨4, .data⟩ (by simp) rfl)
                  simp only [e4]
                  go_simp
                  exact hK _ _ ⟨upd u 5 (.agg #[.int .i64 t', .slice P' us'.length p', .slice R' zs'.length r']), by simp only [upd, e4]; rfl, keepV hF hl (by omega) _ (fun _ _ h => h), ⟨b', t', P', p', us', R', r', zs', b', rfl, hr4⟩, hG.below (Below.refl _ _) rfl⟩
                · have ho0 := ho
                  simp only [List.getElem?_toArray, List.getElem?_cons_zero, List.getElem?_cons_succ, Option.some.injEq] at ho
                  subst ho
                  refine wpOp_step ho0 (fun K hK => ?_)
                  clear ho0
                  simp only [putAll, Act.put, List.setIfInBounds_toArray, List.set_cons_zero, List.set_cons_succ] at hK ⊢
                  obtain ⟨t', P', p', us', R', r', zs', b', e4, hr4⟩ : ShA 5 wr.heap.size (u 4) W := hF 4 (hall ⟨4, .data⟩ (by simp) rfl)
                  simp only [e4]
                  go_simp
                  exact hK _ _ ⟨upd u 6 (.bool b'), by simp only [upd, e4]; rfl, keepV hF hl (by omega) _ (fun _ _ h => h), ⟨b', rfl⟩, hG.below (Below.refl _ _) rfl⟩
                · have ho0 := ho
                  simp only [List.getElem?_toArray, List.getElem?_cons_zero, List.getElem?_cons_succ, Option.some.injEq] at ho
                  subst ho
                  refine wpOp_step ho0 (fun K hK => ?_)
                  clear ho0
                  simp only [putAll, Act.put, List.setIfInBounds_toArray, List.set_cons_zero, List.set_cons_succ] at hK ⊢
                  have h8 : l 8 = false := by
                    cases h8 : l 8 with
                    | false => rfl
                    | true => exact absurd (hcl 8 _ rfl h8 ⟨7, .data⟩ (by simp) rfl) (by rw [hl]; decide)
                  go_simp
                  exact hK _ _ ⟨upd u 7 _, rfl, keepV hF hl (fun _ => h8) _ (fun _ _ h => h.below (ext_alloc (Below.refl _ _) _) hrl), ⟨_, _, _, _, rfl, hG.1.size, Bx.new _ _ _ _⟩, hG.below (ext_alloc (Below.refl _ _) _) rfl⟩
                · have ho0 := ho
                  simp only [List.getElem?_toArray, List.getElem?_cons_zero, List.getElem?_cons_succ, Option.some.injEq] at ho
                  subst ho
                  refine wpOp_step ho0 (fun K hK => ?_)
                  clear ho0
                  simp only [putAll, Act.put, List.setIfInBounds_toArray, List.set_cons_zero, List.set_cons_succ] at hK ⊢
                  obtain ⟨b', t', P', p', us', R', r', zs', b2, e5', hr5⟩ : ShB 5 wr.heap.size (u 5) W := hF 5 (hall ⟨5, .data⟩ (by simp) rfl)
                  have e5 : u 5 = .agg #[.int .i64 t', .slice P' us'.length p', .slice R' zs'.length r'] := by
                    injection e5' with e5'
                    have := congrArg (fun a => a[0]?) e5'
                    simpa using this
                  obtain ⟨g7, x, y, z, e7, hk7, bx7⟩ := hF 7 (hall ⟨7, .data⟩ (by simp) rfl)
                  replace e7 : u 7 = _ := e7
                  simp only [e5, e7]
                  have c0 := bx7.c0
                  have c1 := bx7.c1
                  have c2 := bx7.c2
                  have y0 := bx7.free 0
                  have y1 := bx7.free 1
                  have y2 := bx7.free 2
                  go_simp
                  obtain ⟨hg, q', hr', hq1', hq2'⟩ := hG
                  have hB : ShB 5 wr.heap.size (.agg #[.int .i64 t', .slice P' us'.length p', .slice R' zs'.length r']) W := ⟨b', t', P', p', us', R', r', zs', b', rfl, hr5⟩
                  refine hK _ _ ⟨u, by simp only [e5, e7], fun j hj => ?_, ?_, grown_put3 hg hk7, q', rd_put3 hr' (by omega), hq1', hq2'⟩
                  · have hj8 : j ≠ 8 := fun e => by subst e; rw [hl] at hj; cases hj
                    exact FGv.put bx7 (hF j hj) hj8
                  · obtain ⟨b3, hB⟩ := hB
                    exact ⟨g7, _, _, _, e7, hk7, bx7.put3, b3, hB.put bx7⟩
                · have ho0 := ho
                  simp only [List.getElem?_toArray, List.getElem?_cons_zero, List.getElem?_cons_succ, Option.some.injEq] at ho
                  subst ho
                  refine wpOp_step ho0 (fun K hK => ?_)
                  clear ho0
                  simp only [putAll, Act.put, List.setIfInBounds_toArray, List.set_cons_zero, List.set_cons_succ] at hK ⊢
                  obtain ⟨b', e6⟩ := hF 6 (hall ⟨6, .data⟩ (by simp) rfl)
                  replace e6 : u 6 = _ := e6
                  simp only [e6]
                  go_simp
                  exact hK _ _ ⟨upd u 9 (.bool b'), by simp only [upd, e6]; rfl, keepV hF hl (by omega) _ (fun _ _ h => h), ⟨b', rfl⟩, hG.below (Below.refl _ _) rfl⟩
                · simp at ho
              · intro u W hF hG
                have h8 := hF 8 (by decide)
                have h9 := hF 9 (by decide)
                simp only [putAll, Act.put, List.setIfInBounds_toArray, List.set_cons_zero, List.set_cons_succ]
                go_wp2_with fail
                go_meet
                exact ⟨h8, h9, hG⟩
            case rest =>
              obtain ⟨⟨g6, a6, b6, c6, rfl, hg6, bx6, b', t', P', p', us', R', r', zs', b2, hS, t0', t1', l1', l2', rP', rR'⟩, ⟨b, rfl⟩, hgc, q', hrc, hqc, -⟩ := hcut
              obtain ⟨⟨rfl, rfl, rfl⟩, -⟩ : (a6 = .int .i64 t' ∧ b6 = .slice P' us'.length p' ∧ c6 = .slice R' zs'.length r') ∧ b' = b2 := by simpa using hS
              have hg7 : g6 ≠ k := by omega
              have hg8 : k ≠ g6 := by omega
              replace bx := bx_far bx hgc hkr; replace rP := Rw.far rP hgc (fun j e => by injection e with e; omega); replace rQ := Rw.far rQ hgc (fun j e => by injection e with e; omega); replace hG := grown_same hG hgc
              clear hS hgc hr
              cases b with
              | true =>
                have c0 := bx6.c0; have c1 := bx6.c1; have c2 := bx6.c2
                have z0 := bx.c0; have z1 := bx.c1; have z2 := bx.c2; have y0 := bx.free 0; have y1 := bx.free 1; have y2 := bx.free 2
                go_wp2_with fail
                go_roundw
                case rel => exact ⟨n - 1, t', P', p', us', R', r', zs', q', rfl, by omega, by omega, t0', t1', by omega, l1', l2', rd_put3 hrc hrk, bx.put3, (rP'.low hz).put3 bx, (rR'.low hz).put3 bx, grown_put3 hG hkB⟩
                case measure => simp [intOf]; omega
              | false =>
                go_wp2_with fail
                go_roundw
                case rel => exact ⟨n - 1, t, A, c, us, B, d, zs, q', rfl, by omega, by omega, t0, t1, by omega, l1, l2, hrc, bx, rP, rQ, hG⟩
                case measure => simp [intOf]; omega
          · obtain rfl : n = 0 := by omega
            go_wp2_with fail
            refine (pick_any rb q 20 wr hr (by omega) (by omega)).mono ?_
            rintro e w7 ⟨x, rfl, x0, x1, hr7, hg7, -⟩
            have hx1 := x1 (by omega)
            replace bx := bx_far bx hg7 hkr; replace rP := Rw.far rP hg7 (fun j e => by injection e with e; omega); replace rQ := Rw.far rQ hg7 (fun j e => by injection e with e; omega); replace hG := grown_same hG hg7
            have hk7 := bx.lt
            clear hr hg7 x1 hz hkl
            have hz7 := hG.size
            by_cases e0 : x = 0
            · subst e0
              go_wp2_with fail
              refine (one_any rb (q + 1) (some ⟨w7.heap.size, 0, none⟩) 3 [-1, 21, 1] _ (hr7.ext (ext_alloc (Below.refl _ _) _)) (by omega) (slI_made w7 3 [-1, 21, 1] (by decide)) (by decide) (by decide) (fun ad e => by injection e with e; subst e; show w7.heap.size ≠ rb; omega)).mono ?_
              rintro e w8 ⟨v8, rfl, hv8, hr8, hg8, -⟩
              have hgab : w7.grownBy w8 (some rb) := grown_same (World.grownBy_alloc w7 _ _) hg8
              have hv9 : -1 ≤ v8 ∧ v8 ≤ 21 := by simp at hv8; omega
              replace bx := bx_far bx hgab hkr; replace rP := Rw.far rP hgab (fun j e => by injection e with e; omega); replace rQ := Rw.far rQ hgab (fun j e => by injection e with e; omega); replace hG := grown_same hG hgab
              have z9 := bx.c0; have y9 := bx.free 0
              clear hr7 hg8 hgab hv8
              go_upto_region 19 with fail
              obtain ⟨X, hX⟩ : ∃ X, X = w8.setCell ⟨k, 0, none⟩ (.int .i64 v8) := ⟨_, rfl⟩
              rw [← hX]
              have bX : Bx X k (.int .i64 v8) (.slice A us.length c) (.slice B zs.length d) := by rw [hX]; exact bx.put0
              have GX : W1.grownBy X (some rb) := by rw [hX]; exact grown_put1 hG hkB
              have rX : Rd X rb (q + 1 + 1) := by rw [hX]; exact rd_put1 hr8 hrk
              have sP := show SlI X A c us from by rw [hX]; exact (RwI.put1 rP bx).1
              have sQ := show SlI X B d zs from by rw [hX]; exact (RwI.put1 rQ bx).1
              have bz := bx_far BZ.out GX (by omega)
              have c0 := bX.c0; have c1 := bX.c1; have c2 := bX.c2
              have z0 := bz.c0; have z1 := bz.c1; have z2 := bz.c2; have y0 := bz.free 0; have y1 := bz.free 1; have y2 := bz.free 2
              clear hX bX bz
              go_wp2
              refine bodyPost_ret (v := .agg #[.int .i64 v8, .slice A us.length c, .slice B zs.length d]) (by simp [results, Try.results30, go_sem, z0, z1, z2]) rfl ?_
              exact shD_done HB1.out GX hz2 rX (by omega) (by omega) (by omega) sP sQ (fun j hj => by have := (Rw.row rP j hj).1; omega) (fun j hj => by have := (Rw.row rQ j hj).1; omega) (by omega) (by omega)
            · have g0 : (x == 0) = false := beq_eq_false_iff_ne.2 e0
              by_cases e1 : x = 1
              · subst e1
                have b1 := bx.c1
                go_wp2_with fail
                refine (spoil_any rb (q + 1) A c us 21 w7 hr7 (by omega) rP.1 (by omega)).mono ?_
                rintro e w8 ⟨A3, c3, ys3, q3, rfl, hs3, hl3, hq3, hr8, hg8, hA3⟩
                replace bx := bx_far bx hg8 hkr; replace rP := Rw.far rP hg8 (fun j e => by injection e with e; omega); replace rQ := Rw.far rQ hg8 (fun j e => by injection e with e; omega); replace hG := grown_same hG hg8
                have z9 := bx.c1; have y9 := bx.free 1
                clear hr7 hg8 b1
                go_upto_region 19 with fail
                obtain ⟨X, hX⟩ : ∃ X, X = w8.setCell ⟨k, 1, none⟩ (.slice A3 ys3.length c3) := ⟨_, rfl⟩
                rw [← hX]
                have bX : Bx X k (.int .i64 t) (.slice A3 ys3.length c3) (.slice B zs.length d) := by rw [hX]; exact bx.put1
                have GX : W1.grownBy X (some rb) := by rw [hX]; exact grown_put1 hG hkB
                have rX : Rd X rb (q3) := by rw [hX]; exact rd_put1 hr8 hrk
                have sP := show SlI X A3 c3 ys3 from by rw [hX]; exact Sl.apart hs3 (put1_grown w8 k 1 _) (fun j hj e => by injection e with e; have := row_of_addr hA3 j hj; omega)
                have sQ := show SlI X B d zs from by rw [hX]; exact (RwI.put1 rQ bx).1
                have bz := bx_far BZ.out GX (by omega)
                have c0 := bX.c0; have c1 := bX.c1; have c2 := bX.c2
                have z0 := bz.c0; have z1 := bz.c1; have z2 := bz.c2; have y0 := bz.free 0; have y1 := bz.free 1; have y2 := bz.free 2
                clear hX bX bz
                go_wp2
                refine bodyPost_ret (v := .agg #[.int .i64 t, .slice A3 ys3.length c3, .slice B zs.length d]) (by simp [results, Try.results30, go_sem, z0, z1, z2]) rfl ?_
                exact shD_done HB1.out GX hz2 rX (by omega) (by omega) (by omega) sP sQ (fun j hj => by have := row_of_addr hA3 j hj; omega) (fun j hj => by have := (Rw.row rQ j hj).1; omega) (by omega) (by omega)
              · have g1 : (x == 1) = false := beq_eq_false_iff_ne.2 e1
                by_cases e2 : x = 2
                · subst e2
                  have b1 := bx.c2
                  go_wp2_with fail
                  refine (spoil_any rb (q + 1) B d zs 21 w7 hr7 (by omega) rQ.1 (by omega)).mono ?_
                  rintro e w8 ⟨A3, c3, ys3, q3, rfl, hs3, hl3, hq3, hr8, hg8, hA3⟩
                  replace bx := bx_far bx hg8 hkr; replace rP := Rw.far rP hg8 (fun j e => by injection e with e; omega); replace rQ := Rw.far rQ hg8 (fun j e => by injection e with e; omega); replace hG := grown_same hG hg8
                  have z9 := bx.c2; have y9 := bx.free 2
                  clear hr7 hg8 b1
                  go_upto_region 19 with fail
                  obtain ⟨X, hX⟩ : ∃ X, X = w8.setCell ⟨k, 2, none⟩ (.slice A3 ys3.length c3) := ⟨_, rfl⟩
                  rw [← hX]
                  have bX : Bx X k (.int .i64 t) (.slice A us.length c) (.slice A3 ys3.length c3) := by rw [hX]; exact bx.put2
                  have GX : W1.grownBy X (some rb) := by rw [hX]; exact grown_put1 hG hkB
                  have rX : Rd X rb (q3) := by rw [hX]; exact rd_put1 hr8 hrk
                  have sP := show SlI X A c us from by rw [hX]; exact (RwI.put1 rP bx).1
                  have sQ := show SlI X A3 c3 ys3 from by rw [hX]; exact Sl.apart hs3 (put1_grown w8 k 2 _) (fun j hj e => by injection e with e; have := row_of_addr hA3 j hj; omega)
                  have bz := bx_far BZ.out GX (by omega)
                  have c0 := bX.c0; have c1 := bX.c1; have c2 := bX.c2
                  have z0 := bz.c0; have z1 := bz.c1; have z2 := bz.c2; have y0 := bz.free 0; have y1 := bz.free 1; have y2 := bz.free 2
                  clear hX bX bz
                  go_wp2
                  refine bodyPost_ret (v := .agg #[.int .i64 t, .slice A us.length c, .slice A3 ys3.length c3]) (by simp [results, Try.results30, go_sem, z0, z1, z2]) rfl ?_
                  exact shD_done HB1.out GX hz2 rX (by omega) (by omega) (by omega) sP sQ (fun j hj => by have := (Rw.row rP j hj).1; omega) (fun j hj => by have := row_of_addr hA3 j hj; omega) (by omega) (by omega)
                · have g2 : (x == 2) = false := beq_eq_false_iff_ne.2 e2
                  go_upto_region 19 with fail
                  obtain ⟨X, hX⟩ : ∃ X, X = w7 := ⟨_, rfl⟩
                  rw [← hX]
                  have bX : Bx X k (.int .i64 t) (.slice A us.length c) (.slice B zs.length d) := by rw [hX]; exact bx
                  have GX : W1.grownBy X (some rb) := by rw [hX]; exact hG
                  have rX : Rd X rb (q + 1) := by rw [hX]; exact hr7
                  have sP := show SlI X A c us from by rw [hX]; exact rP.1
                  have sQ := show SlI X B d zs from by rw [hX]; exact rQ.1
                  have bz := bx_far BZ.out GX (by omega)
                  have c0 := bX.c0; have c1 := bX.c1; have c2 := bX.c2
                  have z0 := bz.c0; have z1 := bz.c1; have z2 := bz.c2; have y0 := bz.free 0; have y1 := bz.free 1; have y2 := bz.free 2
                  clear hX bX bz
                  go_wp2
                  refine bodyPost_ret (v := .agg #[.int .i64 t, .slice A us.length c, .slice B zs.length d]) (by simp [results, Try.results30, go_sem, z0, z1, z2]) rfl ?_
                  exact shD_done HB1.out GX hz2 rX (by omega) (by omega) (by omega) sP sQ (fun j hj => by have := (Rw.row rP j hj).1; omega) (fun j hj => by have := (Rw.row rQ j hj).1; omega) (by omega) (by omega)
end Go.Proofs.Ytjgijfmnplcdkaa
