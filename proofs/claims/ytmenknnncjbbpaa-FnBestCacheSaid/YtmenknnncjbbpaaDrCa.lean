/- What the draw of a cache gives. -/
import Derived.Test.YtmenknnncjbbpaaWC5
import Derived.Test.YtmenknnncjbbpaaDrL
import Derived.Test.YtmenknnncjbbpaaWInv
import Derived.Deep.DeepCutAuto
namespace Go.Proofs.Ytmenknnncjbbpaa
open Go.RowKit
/-- A cache and a word, in new memory. -/
def CaA (B : Nat) (x : Value) (W : World) : Prop :=
  ∃ (r : Int) (P : Option Addr) (p : Nat) (us : List Int) (b : Bool), x = .tuple #[.agg #[.int .i64 r, .slice P us.length p], .bool b] ∧ 0 ≤ r ∧ r ≤ 6 ∧ us.length ≤ 6 ∧ RwI W B P p us
theorem caA_of {r : Int} {xs : List Int} {v : Int} {W W' : World} {e : Ending} {B : Nat} (h : CaR (USE r xs v) r W e W') (hB : B ≤ W.heap.size) : ∃ x, e = .returned x ∧ CaA B x W' ∧ Below W.heap.size W W' := by
  by_cases hv : VCa r xs = true ∧ inB v 0 9 = true
  · rw [USE_ok hv.1 hv.2] at h
    obtain ⟨P, p, rfl, rP, hb⟩ := h
    have V := validC_iff.1 hv.1
    exact ⟨_, rfl, ⟨r, P, p, _, _, rfl, V.r0, V.r1, US_len V v, rP.low hB⟩, hb⟩
  · rw [show USE r xs v = none from if_neg hv] at h
    obtain ⟨rfl, hb⟩ := h
    exact ⟨_, rfl, ⟨0, none, 0, [], false, rfl, by omega, by omega, by simp, rwI_nil _ _ _ _ (by decide)⟩, hb⟩
theorem CaA.grown {B rb : Nat} {x : Value} {W W' : World} (h : CaA B x W) (hg : W.grownBy W' (some rb)) (hb : rb < B) : CaA B x W' := by
  obtain ⟨r, P, p, us, b, e, h0, h1, h2, h3⟩ := h
  exact ⟨r, P, p, us, b, e, h0, h1, h2, Rw.far h3 hg (fun k e => by injection e with e; omega)⟩
theorem CaA.put {B k : Nat} {x a0 b0 a b : Value} {W : World} (bx : Cx 31 W k a0 b0) (h : CaA B x W) : CaA B x ((W.setCell ⟨k, 0, none⟩ a).setCell ⟨k, 1, none⟩ b) := by
  obtain ⟨r, P, p, us, b', e, h0, h1, h2, h3⟩ := h
  exact ⟨r, P, p, us, b', e, h0, h1, h2, h3.cput2 bx (by decide)⟩
/-- A cache alone, in new memory. -/
def CaE (B : Nat) (x : Value) (W : World) : Prop := ∃ b : Bool, CaA B (.tuple #[x, .bool b]) W
/-- What the operations of a use leave. -/
def FUs (s : Value) (B rb : Nat) (j : Nat) (x : Value) (W : World) : Prop :=
  match j with
  | 0 => x = s
  | 1 => x = .pointer (some ⟨rb, 0, none⟩)
  | 2 => ∃ m : Int, x = .int .i64 m
  | 3 => CaA B x W
  | 4 => CaA B x W
  | 5 => CaE B x W
  | 6 => ∃ b : Bool, x = .bool b
  | 7 => ∃ (g : Nat) (a b : Value), x = .pointer (some ⟨g, 0, none⟩) ∧ B ≤ g ∧ Cx 31 W g a b
  | 8 => ∃ (g : Nat) (a b : Value), x = .pointer (some ⟨g, 0, none⟩) ∧ B ≤ g ∧ Cx 31 W g a b ∧ CaE B (.agg #[a, b]) W
  | _ => True
theorem cx_far {e : TypeId} {w w' : World} {g rb : Nat} {u v : Value} (h : Cx e w g u v) (hg : w.grownBy w' (some rb)) (hne : g ≠ rb) : Cx e w' g u v := h.far hg (fun e => hne (by injection e with e; exact e.symm))
theorem FUs.grown {s : Value} {B rb j : Nat} {x : Value} {W W' : World} (h : FUs s B rb j x W) (hg : W.grownBy W' (some rb)) (hb : rb < B) : FUs s B rb j x W' := by
  unfold FUs at h ⊢
  split at h
  · exact h
  · exact h
  · exact h
  · exact h.grown hg hb
  · exact h.grown hg hb
  · obtain ⟨b, h⟩ := h; exact ⟨b, h.grown hg hb⟩
  · exact h
  · obtain ⟨g, a, b, e, h0, r⟩ := h
    exact ⟨g, a, b, e, h0, cx_far r hg (by omega)⟩
  · obtain ⟨g, a, b, e, h0, r, b', h⟩ := h
    exact ⟨g, a, b, e, h0, cx_far r hg (by omega), b', h.grown hg hb⟩
  · trivial
theorem FUs.below {s : Value} {B rb j : Nat} {x : Value} {W W' : World} (h : FUs s B rb j x W) (hg : Below W.heap.size W W') (hb : rb < B) : FUs s B rb j x W' := h.grown (grown_below hg _) hb
theorem FUs.put {s : Value} {B rb j k : Nat} {x a0 b0 a b : Value} {W : World} (bx : Cx 31 W k a0 b0) (h : FUs s B rb j x W) (hj : j ≠ 8) : FUs s B rb j x ((W.setCell ⟨k, 0, none⟩ a).setCell ⟨k, 1, none⟩ b) := by
  have hs := set2g W k a b
  unfold FUs at h ⊢
  split at h
  · exact h
  · exact h
  · exact h
  · exact h.put bx
  · exact h.put bx
  · obtain ⟨b, h⟩ := h; exact ⟨b, h.put bx⟩
  · exact h
  · obtain ⟨g, a1, b1, e, h0, r⟩ := h
    by_cases hg : g = k
    · subst hg
      exact ⟨g, a, b, e, h0, r.put2⟩
    · exact ⟨g, a1, b1, e, h0, cx_far r hs hg⟩
  · exact absurd rfl hj
  · trivial
theorem keepU {s : Value} {B rb : Nat} {l : Nat → Bool} {u : Nat → Value} {W W' : World} {i : Nat} (hF : ∀ j, l j = true → FUs s B rb j (u (if j = 8 then 7 else j)) W) (hl : l i = false) (hni : i = 7 → l 8 = false) (v : Value) (st : ∀ j x, FUs s B rb j x W → FUs s B rb j x W') :
    ∀ j, l j = true → FUs s B rb j (upd u i v (if j = 8 then 7 else j)) W' := fun j hj => by
  have hne : (if j = 8 then 7 else j) ≠ i := by
    split
    · rename_i e; subst e
      intro e; rw [hni e.symm] at hj; cases hj
    · intro e; subst e; rw [hl] at hj; cases hj
  rw [upd_ne u v hne]
  exact st _ _ (hF j hj)
/-- The reader, and what is as it was. -/
def GUs (W1 : World) (rb p : Nat) (l : Nat → Bool) (W : World) : Prop := W1.grownBy W (some rb) ∧ ∃ q, Rd W rb q ∧ q ≤ p + 1 ∧ (l 2 = false → q = p)
theorem GUs.below {W1 W W' : World} {rb p : Nat} {l l' : Nat → Bool} (h : GUs W1 rb p l W) (hg : Below W.heap.size W W') (hl : l' 2 = l 2) : GUs W1 rb p l' W' := by
  obtain ⟨h1, q, h2, h3, h4⟩ := h
  exact ⟨grown_ext h1 hg, q, h2.ext hg, h3, by rw [hl]; exact h4⟩
theorem grown_cput1 {w1 w : World} {rb g i : Nat} {a : Value} (h : w1.grownBy w (some rb)) (hg : w1.heap.size ≤ g) : w1.grownBy (w.setCell ⟨g, i, none⟩ a) (some rb) := grown_step h (set1g w g i a) (fun k e => .inr (by injection e with e; omega))
theorem grown_cput2 {w1 w : World} {rb g : Nat} {a b : Value} (h : w1.grownBy w (some rb)) (hg : w1.heap.size ≤ g) : w1.grownBy ((w.setCell ⟨g, 0, none⟩ a).setCell ⟨g, 1, none⟩ b) (some rb) := grown_step h (set2g w g a b) (fun k e => .inr (by injection e with e; omega))
theorem rd_cput1 {w : World} {rb p g i : Nat} {a : Value} (h : Rd w rb p) (hg : rb < g) : Rd (w.setCell ⟨g, i, none⟩ a) rb p := h.grown (set1g w g i a) (fun k e => by injection e with e; omega)
theorem rd_cput2 {w : World} {rb p g : Nat} {a b : Value} (h : Rd w rb p) (hg : rb < g) : Rd ((w.setCell ⟨g, 0, none⟩ a).setCell ⟨g, 1, none⟩ b) rb p := h.grown (set2g w g a b) (fun k e => by injection e with e; omega)
theorem row_of_ad {A : Option Addr} {n B : Nat} (h : ∀ ad, A = some ad → B ≤ ad.block) : ∀ j, rowOf A n = some j → B ≤ j := fun j hj => by
  unfold rowOf at hj
  split at hj
  · cases hj
  · cases A with
    | none => cases hj
    | some ad => injection hj with hj; subst hj; exact h ad rfl
/-- A cache drawn. -/
def CaDw (w : World) (rb p : Nat) (e : Ending) (w' : World) : Prop :=
  ∃ (r : Int) (P : Option Addr) (pc : Nat) (xs : List Int) (q : Nat), e = .returned (.agg #[.int .i64 r, .slice P xs.length pc]) ∧ -1 ≤ r ∧ r ≤ 7 ∧ SlI w' P pc xs ∧ xs.length ≤ 100 ∧ q ≤ p + 40 ∧ Rd w' rb q ∧ w.grownBy w' (some rb) ∧ (∀ j, rowOf P xs.length = some j → w.heap.size < j)
theorem caD_done {w W1 X : World} {rb p q : Nat} {r : Int} {P : Option Addr} {pc : Nat} {xs : List Int} (hb1 : Below w.heap.size w W1) (hG : W1.grownBy X (some rb)) (hrb : rb < w.heap.size) (hr : Rd X rb q) (hq : q ≤ p + 40) (h0 : -1 ≤ r) (h1 : r ≤ 7) (sP : SlI X P pc xs) (hP : ∀ j, rowOf P xs.length = some j → w.heap.size < j) (l1 : xs.length ≤ 100) :
    CaDw w rb p (.returned (.agg #[.int .i64 r, .slice P xs.length pc])) ((X.setCell ⟨w.heap.size, 0, none⟩ (.int .i64 r)).setCell ⟨w.heap.size, 1, none⟩ (.slice P xs.length pc)) :=
  ⟨r, P, pc, xs, q, rfl, h0, h1, SlI.cput2 sP (fun j hj => by have := hP j hj; omega), l1, hq, rd_cput2 hr hrb, grown_step (grown_step (grown_below hb1 (some rb)) hG (fun k e => .inl e)) (set2g X w.heap.size _ _) (fun k e => .inr (by injection e with e; omega)), hP⟩
set_option maxRecDepth 100000 in
set_option maxHeartbeats 4000000 in
theorem anyCache_any (rb p : Nat) (w : World) (hrd : Rd w rb p) (hq : p ≤ 900000) :
    Calls Try.prog 18 #[.pointer (some ⟨rb, 0, none⟩)] w (CaDw w rb p) := by
  have hz2 := hrd.lt
  obtain ⟨W1, hW1⟩ : ∃ W1, W1 = w.alloc (.cells #[.int .i64 0, .slice none 0 0] 31) := ⟨_, rfl⟩
  have hb1 : Below w.heap.size w W1 := by rw [hW1]; exact ext_alloc (Below.refl _ _) _
  have HSZ := hd (show W1.heap.size = w.heap.size + 1 by rw [hW1]; simp)
  have bz0 : Cx 31 W1 w.heap.size (.int .i64 0) (.slice none 0 0) := by rw [hW1]; exact Cx.new w _ _
  have hlw := bz0.lt
  have BZ := hd bz0
  have HB1 := hd hb1
  have hr1 := hrd.ext hb1
  clear bz0 hb1 hrd
  go_enter Try.func18, Try.ntmps18
  go_wp2_with fail
  rw [← hW1]
  clear hW1
  have ONE1 := one_any rb p (some ⟨W1.heap.size, 0, none⟩) 6 [3, 4, 2, 1, 0, 6] _ (hr1.ext (ext_alloc (Below.refl _ _) _)) (by omega) (slI_made W1 3 [3, 4, 2, 1, 0, 6] (by decide)) (by decide) (by decide) (fun ad e => by injection e with e; subst e; show W1.heap.size ≠ rb; omega)
  rw [HSZ.out] at ONE1
  refine ONE1.mono ?_
  rintro e w3 ⟨v, rfl, hv, hr3, hg3, -⟩
  have hv2 : 0 ≤ v ∧ v ≤ 6 := by simp at hv; omega
  have v0 := hv2.1
  have v1 := hv2.2
  have hG3 : W1.grownBy w3 (some rb) := grown_same (World.grownBy_alloc W1 _ _) hg3
  clear hv hv2 hg3 hr1 ONE1
  go_upto_region 2 with fail
  obtain ⟨W4, hW4⟩ : ∃ W4, W4 = (w3.alloc (.cells #[] 3)).alloc (.cells #[.int .i64 v, .slice (some ⟨w3.heap.size, 0, none⟩) 0 0] 31) := ⟨_, rfl⟩
  rw [← hW4]
  have hx : Below w3.heap.size w3 W4 := by rw [hW4]; exact ext_alloc (ext_alloc (Below.refl _ _) _) _
  obtain ⟨k, hk⟩ : ∃ k, k = w3.heap.size + 1 := ⟨_, rfl⟩
  have bx : Cx 31 W4 k (.int .i64 v) (.slice (some ⟨w3.heap.size, 0, none⟩) 0 0) := by
    have := Cx.new (e := 31) (w3.alloc (.cells #[] 3)) (.int .i64 v) (.slice (some ⟨w3.heap.size, 0, none⟩) 0 0)
    rw [World.size_alloc] at this
    rw [hW4, hk]
    exact this
  rw [← hk]
  have rP : RwI W4 W1.heap.size (some ⟨w3.heap.size, 0, none⟩) 0 [] := rwI_nil _ _ _ _ (by decide)
  have hr4 := hr3.ext hx
  have hG4 := grown_ext hG3 hx
  have hkB : W1.heap.size ≤ k := by have := hG3.size; omega
  have hkr : k ≠ rb := by omega
  have hrk : rb < k := by omega
  obtain ⟨a3, ha3⟩ : ∃ a3, a3 = (some ⟨w3.heap.size, 0, none⟩ : Option Addr) := ⟨_, rfl⟩
  rw [← ha3] at bx rP
  clear hW4 hk hx hG3 hr3 ha3
  go_wp2_with fail
  refine (one_any rb (p + 1) (some ⟨W4.heap.size, 0, none⟩) 5 [4, 6, 2, 0, 10] _ (hr4.ext (ext_alloc (Below.refl _ _) _)) (by omega) (slI_made W4 3 [4, 6, 2, 0, 10] (by decide)) (by decide) (by decide) (fun ad e => by injection e with e; subst e; have := hG4.size; show W4.heap.size ≠ rb; omega)).mono ?_
  rintro e w5 ⟨n, rfl, hnm, hr5, hg5, -⟩
  have hn : 0 ≤ n ∧ n ≤ 10 := by simp at hnm; omega
  have hgab : W4.grownBy w5 (some rb) := grown_same (World.grownBy_alloc W4 _ _) hg5
  replace bx := cx_far bx hgab hkr; replace rP := Rw.far rP hgab (fun j e => by injection e with e; omega); replace hG4 := grown_same hG4 hgab
  have n0 := hn.1
  have n1 := hn.2
  clear hr4 hg5 hgab hnm hn
  go_wp2_with fail
  go_loopw [4, 5, 6] (fun i _ _ wr => ∃ (n t : Int) (A : Option Addr) (c : Nat) (us : List Int) (q : Nat), i = .int .i64 n ∧ 0 ≤ n ∧ n ≤ 10 ∧ 0 ≤ t ∧ t ≤ 6 ∧ (q : Int) + n ≤ p + 12 ∧ us.length ≤ 6 ∧ Rd wr rb q ∧ Cx 31 wr k (.int .i64 t) (.slice A us.length c) ∧ RwI wr W1.heap.size A c us ∧ W1.grownBy wr (some rb)) (fun i _ _ _ => (intOf i).toNat)
  case atStart => exact ⟨n, v, a3, 0, [], p + 1 + 1, rfl, n0, n1, v0, v1, by omega, by decide, hr5, bx, rP, hG4⟩
  case round =>
    clear bx rP hG4 hr5 n0 n1 v0 v1
    obtain ⟨n, t, A, c, us, q, rfl, n0, n1, t0, t1, hq2, l1, hr, bx, rP, hG⟩ := hrel
    have hz := hG.size
    have hkl := bx.lt
    have hrl := hr.lt
    by_cases hlt : 0 < n
    · go_upto_region 5 with fail
      go_cut [5, 6] (fun s6 s7 wx => (∃ (g : Nat) (a b : Value), s6 = .pointer (some ⟨g, 0, none⟩) ∧ wr.heap.size ≤ g ∧ Cx 31 wx g a b ∧ CaE wr.heap.size (.agg #[a, b]) wx) ∧ GUs wr rb q (fun j => decide (j < 10)) wx)
      case first =>
        refine wp_region_facts [(0, 20), (1, 21), (2, 22), (3, 23), (4, 19), (5, 24), (6, 25), (7, 5), (9, 6)] (fun j u W => FUs (.agg #[.int .i64 t, .slice A us.length c]) wr.heap.size rb j (u (if j = 8 then 7 else j)) W) (GUs wr rb q) (fun i => (#[u20, u21, u22, u23, u19, u24, u25, u5, undef, u6] : Array Value).getD i undef) (by kernel_rfl) (by kernel_rfl) (by simp [putAll, Act.put]) ⟨⟨rfl, rfl, rfl, Nat.le_refl _, fun _ _ _ => rfl⟩, q, hr.ext (ext_drew (Below.refl _ _)), by omega, fun _ => rfl⟩ ?_ ?_
        · intro l u W hG' hF hcl i o ho hl hall
          rcases i with _ | _ | _ | _ | _ | _ | _ | _ | _ | _ | i
          · have ho0 := ho
            simp only [List.getElem?_toArray, List.getElem?_cons_zero, List.getElem?_cons_succ, Option.some.injEq] at ho
            subst ho
            refine wpOp_step ho0 (fun K hK => ?_)
            clear ho0
            simp only [putAll, Act.put, List.setIfInBounds_toArray, List.set_cons_zero, List.set_cons_succ] at hK ⊢
            have bxW := cx_far bx hG'.1 hkr
            have c0 := bxW.c0
            have c1 := bxW.c1
            go_simp
            exact hK _ _ ⟨upd u 0 _, rfl, keepU hF hl (by omega) _ (fun _ _ h => h), rfl, hG'.below (Below.refl _ _) rfl⟩
          · have ho0 := ho
            simp only [List.getElem?_toArray, List.getElem?_cons_zero, List.getElem?_cons_succ, Option.some.injEq] at ho
            subst ho
            refine wpOp_step ho0 (fun K hK => ?_)
            clear ho0
            simp only [putAll, Act.put, List.setIfInBounds_toArray, List.set_cons_zero, List.set_cons_succ] at hK ⊢
            go_simp
            exact hK _ _ ⟨upd u 1 _, rfl, keepU hF hl (by omega) _ (fun _ _ h => h), rfl, hG'.below (Below.refl _ _) rfl⟩
          · have ho0 := ho
            simp only [List.getElem?_toArray, List.getElem?_cons_zero, List.getElem?_cons_succ, Option.some.injEq] at ho
            subst ho
            refine wpOp_step ho0 (fun K hK => ?_)
            clear ho0
            simp only [putAll, Act.put, List.setIfInBounds_toArray, List.set_cons_zero, List.set_cons_succ] at hK ⊢
            have e1 : u 1 = _ := hF 1 (hall ⟨1, .data⟩ (by simp) rfl)
            obtain ⟨hg, q', hr', hq1', hq2'⟩ := hG'
            have hqp := hq2' hl
            subst hqp
            simp only [e1]
            go_simp
            refine (pick_any rb q' 10 W hr' (by omega) (by omega)).mono ?_
            rintro e w3 ⟨m, rfl, hm0, hm1, hrd3, hg3, hz3⟩
            exact hK _ _ ⟨upd u 2 (.int .i64 m), by simp only [upd, e1]; rfl, keepU hF hl (by omega) _ (fun _ _ h => h.grown hg3 hrl), ⟨m, rfl⟩, grown_same hg hg3, _, hrd3, by omega, fun h => by cases h⟩
          · have ho0 := ho
            simp only [List.getElem?_toArray, List.getElem?_cons_zero, List.getElem?_cons_succ, Option.some.injEq] at ho
            subst ho
            refine wpOp_step ho0 (fun K hK => ?_)
            clear ho0
            simp only [putAll, Act.put, List.setIfInBounds_toArray, List.set_cons_zero, List.set_cons_succ] at hK ⊢
            have e0 : u 0 = _ := hF 0 (hall ⟨0, .data⟩ (by simp) rfl)
            obtain ⟨m, e2⟩ := hF 2 (hall ⟨2, .data⟩ (by simp) rfl)
            replace e2 : u 2 = _ := e2
            simp only [e0, e2]
            go_simp
            have sP := (Rw.far rP hG'.1 (fun j e => by injection e with e; omega)).1
            refine (sus_any t A c us m W sP).mono ?_
            intro e w3 hS
            obtain ⟨x, rfl, hx, hb3⟩ := caA_of hS hG'.1.size
            exact hK _ _ ⟨upd u 3 x, by simp only [upd, e0, e2]; rfl, keepU hF hl (by omega) _ (fun _ _ h => h.below hb3 hrl), hx, hG'.below hb3 rfl⟩
          · have ho0 := ho
            simp only [List.getElem?_toArray, List.getElem?_cons_zero, List.getElem?_cons_succ, Option.some.injEq] at ho
            subst ho
            refine wpOp_step ho0 (fun K hK => ?_)
            clear ho0
            simp only [putAll, Act.put, List.setIfInBounds_toArray, List.set_cons_zero, List.set_cons_succ] at hK ⊢
            obtain ⟨t', P', p', us', b', e3, hr3⟩ : CaA wr.heap.size (u 3) W := hF 3 (hall ⟨3, .data⟩ (by simp) rfl)
            simp only [e3]
            go_simp
            exact hK _ _ ⟨upd u 4 _, by simp only [upd, e3]; rfl, keepU hF hl (by omega) _ (fun _ _ h => h), ⟨t', P', p', us', b', rfl, hr3⟩, hG'.below (Below.refl _ _) rfl⟩
          · have ho0 := ho
            simp only [List.getElem?_toArray, List.getElem?_cons_zero, List.getElem?_cons_succ, Option.some.injEq] at ho
            subst ho
            refine wpOp_step ho0 (fun K hK => ?_)
            clear ho0
            simp only [putAll, Act.put, List.setIfInBounds_toArray, List.set_cons_zero, List.set_cons_succ] at hK ⊢
            obtain ⟨t', P', p', us', b', e4, hr4⟩ : CaA wr.heap.size (u 4) W := hF 4 (hall ⟨4, .data⟩ (by simp) rfl)
            simp only [e4]
            go_simp
            exact hK _ _ ⟨upd u 5 (.agg #[.int .i64 t', .slice P' us'.length p']), by simp only [upd, e4]; rfl, keepU hF hl (by omega) _ (fun _ _ h => h), ⟨b', t', P', p', us', b', rfl, hr4⟩, hG'.below (Below.refl _ _) rfl⟩
          · have ho0 := ho
            simp only [List.getElem?_toArray, List.getElem?_cons_zero, List.getElem?_cons_succ, Option.some.injEq] at ho
            subst ho
            refine wpOp_step ho0 (fun K hK => ?_)
            clear ho0
            simp only [putAll, Act.put, List.setIfInBounds_toArray, List.set_cons_zero, List.set_cons_succ] at hK ⊢
            obtain ⟨t', P', p', us', b', e4, hr4⟩ : CaA wr.heap.size (u 4) W := hF 4 (hall ⟨4, .data⟩ (by simp) rfl)
            simp only [e4]
            go_simp
            exact hK _ _ ⟨upd u 6 (.bool b'), by simp only [upd, e4]; rfl, keepU hF hl (by omega) _ (fun _ _ h => h), ⟨b', rfl⟩, hG'.below (Below.refl _ _) rfl⟩
          · have ho0 := ho
            simp only [List.getElem?_toArray, List.getElem?_cons_zero, List.getElem?_cons_succ, Option.some.injEq] at ho
            subst ho
            refine wpOp_step ho0 (fun K hK => ?_)
            clear ho0
            simp only [putAll, Act.put, List.setIfInBounds_toArray, List.set_cons_zero, List.set_cons_succ] at hK ⊢
            have h8 : l 8 = false := by
              cases h8 : l 8 with
              | false => rfl
              | true => exact absurd (hcl 8 _ rfl h8 ⟨7, .data⟩ (by simp) rfl) (by rw [hl]; decide)
            go_simp
            exact hK _ _ ⟨upd u 7 _, rfl, keepU hF hl (fun _ => h8) _ (fun _ _ h => h.below (ext_alloc (Below.refl _ _) _) hrl), ⟨_, _, _, rfl, hG'.1.size, Cx.new _ _ _⟩, hG'.below (ext_alloc (Below.refl _ _) _) rfl⟩
          · have ho0 := ho
            simp only [List.getElem?_toArray, List.getElem?_cons_zero, List.getElem?_cons_succ, Option.some.injEq] at ho
            subst ho
            refine wpOp_step ho0 (fun K hK => ?_)
            clear ho0
            simp only [putAll, Act.put, List.setIfInBounds_toArray, List.set_cons_zero, List.set_cons_succ] at hK ⊢
            obtain ⟨b', t', P', p', us', b2, e5', hr5⟩ : CaE wr.heap.size (u 5) W := hF 5 (hall ⟨5, .data⟩ (by simp) rfl)
            have e5 : u 5 = .agg #[.int .i64 t', .slice P' us'.length p'] := by
              injection e5' with e5'
              have := congrArg (fun a => a[0]?) e5'
              simpa using this
            obtain ⟨g7, x, y, e7, hk7, bx7⟩ := hF 7 (hall ⟨7, .data⟩ (by simp) rfl)
            replace e7 : u 7 = _ := e7
            simp only [e5, e7]
            have c0 := bx7.c0
            have c1 := bx7.c1
            have y0 := bx7.free 0
            have y1 := bx7.free 1
            go_simp
            obtain ⟨hg, q', hr', hq1', hq2'⟩ := hG'
            have hB : CaE wr.heap.size (.agg #[.int .i64 t', .slice P' us'.length p']) W := ⟨b', t', P', p', us', b', rfl, hr5⟩
            refine hK _ _ ⟨u, by simp only [e5, e7], fun j hj => ?_, ?_, grown_cput2 hg hk7, q', rd_cput2 hr' (by omega), hq1', hq2'⟩
            · have hj8 : j ≠ 8 := fun e => by subst e; rw [hl] at hj; cases hj
              exact FUs.put bx7 (hF j hj) hj8
            · obtain ⟨b3, hB⟩ := hB
              exact ⟨g7, _, _, e7, hk7, bx7.put2, b3, hB.put bx7⟩
          · have ho0 := ho
            simp only [List.getElem?_toArray, List.getElem?_cons_zero, List.getElem?_cons_succ, Option.some.injEq] at ho
            subst ho
            refine wpOp_step ho0 (fun K hK => ?_)
            clear ho0
            simp only [putAll, Act.put, List.setIfInBounds_toArray, List.set_cons_zero, List.set_cons_succ] at hK ⊢
            obtain ⟨b', e6⟩ := hF 6 (hall ⟨6, .data⟩ (by simp) rfl)
            replace e6 : u 6 = _ := e6
            simp only [e6]
            go_simp
            exact hK _ _ ⟨upd u 9 (.bool b'), by simp only [upd, e6]; rfl, keepU hF hl (by omega) _ (fun _ _ h => h), trivial, hG'.below (Below.refl _ _) rfl⟩
          · simp at ho
        · intro u W hF hG'
          have h8 := hF 8 (by decide)
          simp only [putAll, Act.put, List.setIfInBounds_toArray, List.set_cons_zero, List.set_cons_succ]
          go_wp2_with fail
          go_meet
          exact ⟨h8, hG'⟩
      case rest =>
        obtain ⟨⟨g6, a6, b6, rfl, hg6, bx6, b', t', P', p', us', b2, hS, t0', t1', l1', rP'⟩, hgc, q', hrc, hqc, -⟩ := hcut
        obtain ⟨⟨rfl, rfl⟩, -⟩ : (a6 = .int .i64 t' ∧ b6 = .slice P' us'.length p') ∧ b' = b2 := by simpa using hS
        have hg7 : g6 ≠ k := by omega
        have hg8 : k ≠ g6 := by omega
        replace bx := cx_far bx hgc hkr; replace hG := grown_same hG hgc
        clear hS hgc hr rP
        have c0 := bx6.c0; have c1 := bx6.c1
        have z0 := bx.c0; have z1 := bx.c1; have y0 := bx.free 0; have y1 := bx.free 1
        go_wp2_with fail
        go_roundw
        case rel => exact ⟨n - 1, t', P', p', us', q', rfl, by omega, by omega, t0', t1', by omega, l1', rd_cput2 hrc hrk, bx.put2, (rP'.low hz).cput2 bx (by decide), grown_cput2 hG hkB⟩
        case measure => simp [intOf]; omega
    · obtain rfl : n = 0 := by omega
      go_wp2_with fail
      refine (pick_any rb q 20 wr hr (by omega) (by omega)).mono ?_
      rintro e w7 ⟨x, rfl, x0, x1, hr7, hg7, -⟩
      have hx1 := x1 (by omega)
      replace bx := cx_far bx hg7 hkr; replace rP := Rw.far rP hg7 (fun j e => by injection e with e; omega); replace hG := grown_same hG hg7
      have hk7 := bx.lt
      clear hr hg7 x1 hz hkl
      have hz7 := hG.size
      by_cases e0 : x = 0
      · subst e0
        go_wp2_with fail
        refine (one_any rb (q + 1) (some ⟨w7.heap.size, 0, none⟩) 3 [-1, 7, 0] _ (hr7.ext (ext_alloc (Below.refl _ _) _)) (by omega) (slI_made w7 3 [-1, 7, 0] (by decide)) (by decide) (by decide) (fun ad e => by injection e with e; subst e; show w7.heap.size ≠ rb; omega)).mono ?_
        rintro e w8 ⟨v8, rfl, hv8, hr8, hg8, -⟩
        have hgab : w7.grownBy w8 (some rb) := grown_same (World.grownBy_alloc w7 _ _) hg8
        have hv9 : -1 ≤ v8 ∧ v8 ≤ 7 := by simp at hv8; omega
        replace bx := cx_far bx hgab hkr; replace rP := Rw.far rP hgab (fun j e => by injection e with e; omega); replace hG := grown_same hG hgab
        have z9 := bx.c0; have y9 := bx.free 0
        clear hr7 hg8 hgab hv8
        go_upto_region 12 with fail
        obtain ⟨X, hX⟩ : ∃ X, X = w8.setCell ⟨k, 0, none⟩ (.int .i64 v8) := ⟨_, rfl⟩
        rw [← hX]
        have bX : Cx 31 X k (.int .i64 v8) (.slice A us.length c) := by rw [hX]; exact bx.put0
        have GX : W1.grownBy X (some rb) := by rw [hX]; exact grown_cput1 hG hkB
        have rX : Rd X rb (q + 1 + 1) := by rw [hX]; exact rd_cput1 hr8 hrk
        have sP := show SlI X A c us from by rw [hX]; exact (RwI.cput1 rP bx (by decide)).1
        have bz := cx_far BZ.out GX (by omega)
        have c0 := bX.c0; have c1 := bX.c1
        have z0 := bz.c0; have z1 := bz.c1; have y0 := bz.free 0; have y1 := bz.free 1
        clear hX bX bz
        go_wp2
        refine bodyPost_ret (v := .agg #[.int .i64 v8, .slice A us.length c]) (by simp [results, Try.results18, go_sem, z0, z1]) rfl ?_
        exact caD_done HB1.out GX hz2 rX (by omega) (by omega) (by omega) sP (fun j hj => by have := (Rw.row rP j hj).1; omega) (by omega)
      · have g0 : (x == 0) = false := beq_eq_false_iff_ne.2 e0
        by_cases e1 : x = 1
        · subst e1
          have b1 := bx.c1
          go_wp2_with fail
          refine (copyIntsO_any A c us w7 rP.1 (by omega)).mono ?_
          rintro e wa ⟨va, rfl, howna, hx⟩
          replace bx := bx.ext hx; replace hG := grown_ext hG hx; replace hr7 := hr7.ext hx
          have hza := hx.size
          clear b1 hx rP
          go_wp2_with (at_builtin; refine wpList_app eltI _ _ (news := ci [(3 : Int)]) (m := 1) howna rfl (ci_one _) (by omega) (by omega) hza (by rfl) (by rfl) (by rfl) (by rfl) ?_; intro v' w4 hown4 hg4; have hge := own_ge howna; replace bx := bx.far hg4 (fun e => (by have := hge k e; omega)); replace hG := grown_step hG hg4 (fun j hj => .inr (by have := hge j hj; omega)); replace hr7 := hr7.grown hg4 (fun j hj => (by have := hge j hj; omega)); obtain ⟨us', hu'⟩ : ∃ us', us' = us ++ [(3 : Int)] := ⟨_, rfl⟩; obtain ⟨A2, c2, rfl, r4⟩ := rwI_of_own (zs := us') hown4 (by rw [hu', ci_append]) (by rw [hu']; simp); have hl7 : us'.length ≤ 7 := (by rw [hu']; simp; omega); clear hu')
          have hz4 : w7.heap.size ≤ w4.heap.size := by have := hg4.size; omega
          clear hown4 hg4 hge howna
          refine (spoil_any rb (q + 1) A2 c2 us' 10 w4 hr7 (by omega) r4.1 (by omega)).mono ?_
          rintro e w8 ⟨A3, c3, ys3, q3, rfl, hs3, hl3, hq3, hr8, hg8, hA3⟩
          replace bx := cx_far bx hg8 hkr; replace hG := grown_same hG hg8
          have z9 := bx.c1; have y9 := bx.free 1
          clear hr7 hg8 r4
          go_upto_region 12 with fail
          obtain ⟨X, hX⟩ : ∃ X, X = w8.setCell ⟨k, 1, none⟩ (.slice A3 ys3.length c3) := ⟨_, rfl⟩
          rw [← hX]
          have bX : Cx 31 X k (.int .i64 t) (.slice A3 ys3.length c3) := by rw [hX]; exact bx.put1
          have GX : W1.grownBy X (some rb) := by rw [hX]; exact grown_cput1 hG hkB
          have rX : Rd X rb (q3) := by rw [hX]; exact rd_cput1 hr8 hrk
          have sP := show SlI X A3 c3 ys3 from by rw [hX]; exact Sl.apart hs3 (set1g w8 k 1 _) (fun j hj e => by injection e with e; have := row_of_ad hA3 j hj; omega)
          have bz := cx_far BZ.out GX (by omega)
          have c0 := bX.c0; have c1 := bX.c1
          have z0 := bz.c0; have z1 := bz.c1; have y0 := bz.free 0; have y1 := bz.free 1
          clear hX bX bz
          go_wp2
          refine bodyPost_ret (v := .agg #[.int .i64 t, .slice A3 ys3.length c3]) (by simp [results, Try.results18, go_sem, z0, z1]) rfl ?_
          exact caD_done HB1.out GX hz2 rX (by omega) (by omega) (by omega) sP (fun j hj => by have := row_of_ad hA3 j hj; omega) (by omega)
        · have g1 : (x == 1) = false := beq_eq_false_iff_ne.2 e1
          go_upto_region 12 with fail
          obtain ⟨X, hX⟩ : ∃ X, X = w7 := ⟨_, rfl⟩
          rw [← hX]
          have bX : Cx 31 X k (.int .i64 t) (.slice A us.length c) := by rw [hX]; exact bx
          have GX : W1.grownBy X (some rb) := by rw [hX]; exact hG
          have rX : Rd X rb (q + 1) := by rw [hX]; exact hr7
          have sP := show SlI X A c us from by rw [hX]; exact rP.1
          have bz := cx_far BZ.out GX (by omega)
          have c0 := bX.c0; have c1 := bX.c1
          have z0 := bz.c0; have z1 := bz.c1; have y0 := bz.free 0; have y1 := bz.free 1
          clear hX bX bz
          go_wp2
          refine bodyPost_ret (v := .agg #[.int .i64 t, .slice A us.length c]) (by simp [results, Try.results18, go_sem, z0, z1]) rfl ?_
          exact caD_done HB1.out GX hz2 rX (by omega) (by omega) (by omega) sP (fun j hj => by have := (Rw.row rP j hj).1; omega) (by omega)
end Go.Proofs.Ytmenknnncjbbpaa
