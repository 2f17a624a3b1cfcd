/- Contracts on settings: values, valueOf, Clip, equalSettings. -/
import Derived.Test.YtabemhjbpnnlpaaW1
import Derived.Test.YtabemhjbpnnlpaaPSet
import Derived.BigGuardPart
import Derived.Deep.QuietTactic
import Derived.BigQuiet
namespace Go.Proofs.Ytabemhjbpnnlpaa
open Go.RowKit

set_option maxHeartbeats 400000 in
theorem valueOf_any (A : Option Addr) (c : Nat) (xs : List St) (n : Int) (w : World) (h : SlS w A c xs) :
    Calls Try.prog 42 #[.slice A xs.length c, .int .i64 n] w fun e w' => e = .returned (.int .i64 (vof xs n)) ∧ w = w' := by
  have hmax := h.max
  have hcap := h.cap
  unfold maxLen at hmax
  go_enter Try.func42, Try.ntmps42
  go_wp2
  go_loop [5] (fun i => ∃ k : Nat, k ≤ xs.length ∧ i = .int .i64 k ∧ Hid (vof xs n = vof (xs.drop k) n)) (fun i => xs.length - (intOf i).toNat)
  case atStart => exact ⟨0, Nat.zero_le _, rfl, rfl⟩
  case round =>
    obtain ⟨k, hk, rfl, HV⟩ := hrel
    by_cases hlt : k < xs.length
    · obtain ⟨ad, rfl, hbl, hc0, hc1⟩ := h.at hlt
      by_cases h1 : xs[k].1 = n
      · have HV' := hd (HV.out.trans ((vof_drop xs k n hlt).trans (if_pos h1)))
        have h1b : (xs[k].1 == n) = true := beq_iff_eq.2 h1
        clear h1
        go_wp2
        go_ret
        exact ⟨by rw [HV'.out]; rfl, rfl⟩
      · have HV' := hd (HV.out.trans ((vof_drop xs k n hlt).trans (if_neg h1)))
        have h1b : (xs[k].1 == n) = false := beq_eq_false_iff_ne.2 h1
        clear h1
        go_wp2
        go_round
        case rel => exact ⟨k + 1, by omega, by go_num, HV'⟩
        case measure => simp [intOf]; omega
    · obtain rfl : k = xs.length := by omega
      have HV' := hd (HV.out.trans (vof_done xs n))
      go_wp2
      go_ret
      exact ⟨by rw [HV'.out]; rfl, rfl⟩

/-- Ten values, one a name. -/
def arr (f : Nat → Int) : Array Value := #[.int .i64 (f 0), .int .i64 (f 1), .int .i64 (f 2), .int .i64 (f 3), .int .i64 (f 4), .int .i64 (f 5), .int .i64 (f 6), .int .i64 (f 7), .int .i64 (f 8), .int .i64 (f 9)]
theorem arr_get (f : Nat → Int) (i : Nat) (h : i < 10) : (arr f)[i]? = some (.int .i64 (f i)) := by
  match i, h with
  | 0, _ | 1, _ | 2, _ | 3, _ | 4, _ | 5, _ | 6, _ | 7, _ | 8, _ | 9, _ => rfl
theorem arr_set (f : Nat → Int) (i : Nat) (v : Int) (h : i < 10) : (arr f).setIfInBounds i (.int .i64 v) = arr (upd f i v) := by
  match i, h with
  | 0, _ | 1, _ | 2, _ | 3, _ | 4, _ | 5, _ | 6, _ | 7, _ | 8, _ | 9, _ => simp [arr, upd]
/-- An array of ten numbers in a block of its own. -/
def Arr (w : World) (g : Nat) (f : Nat → Int) : Prop := w.heap[g]? = some (.cells (arr f) 54 (0, 0))
theorem Arr.lt {w : World} {g : Nat} {f : Nat → Int} (h : Arr w g f) : g < w.heap.size := lt_of_block h
theorem Arr.cell {w : World} {g : Nat} {f : Nat → Int} (h : Arr w g f) {i : Nat} (hi : i < 10) : w.cell? ⟨g, i, none⟩ = some (.int .i64 (f i)) := by
  rw [cell_of_row w g i _ _ _ h, arr_get f i hi]
theorem Arr.free {w : World} {g : Nat} {f : Nat → Int} (h : Arr w g f) (i : Nat) : w.frozen? ⟨g, i, none⟩ = false := by
  unfold Arr at h; simp [World.frozen?, h]
theorem Arr.ext {w w' : World} {g : Nat} {f : Nat → Int} (h : Arr w g f) (hb : Below w.heap.size w w') : Arr w' g f := (hb.block g h.lt).trans h
theorem Arr.far {w w' : World} {g : Nat} {f : Nat → Int} {row : Option Nat} (h : Arr w g f) (hb : w.grownBy w' row) (hr : row ≠ some g) : Arr w' g f := (hb.block g h.lt (fun e => hr e.symm)).trans h
theorem Arr.set {w : World} {g : Nat} {f : Nat → Int} (h : Arr w g f) {i : Nat} (hi : i < 10) (v : Int) : Arr (w.setCell ⟨g, i, none⟩ (.int .i64 v)) g (upd f i v) := by
  unfold Arr at h ⊢
  simp [World.setCell, Array.getElem?_modify, h, arr_set f i v hi]
theorem arr_congr {f g : Nat → Int} (h : ∀ i, i < 10 → f i = g i) : arr f = arr g := by
  unfold arr
  rw [h 0 (by omega), h 1 (by omega), h 2 (by omega), h 3 (by omega), h 4 (by omega), h 5 (by omega), h 6 (by omega), h 7 (by omega), h 8 (by omega), h 9 (by omega)]
theorem Arr.congr {w : World} {g : Nat} {f f' : Nat → Int} (h : Arr w g f) (hf : ∀ i, i < 10 → f i = f' i) : Arr w g f' := by
  unfold Arr at h ⊢; rw [← arr_congr hf]; exact h
theorem Arr.new (w : World) (f : Nat → Int) : Arr (w.alloc (.cells (arr f) 54)) w.heap.size f := heap_alloc_new w _
set_option maxHeartbeats 1000000 in
theorem values_any (A : Option Addr) (c : Nat) (xs : List St) (w : World) (h : SlS w A c xs) (hv : ∀ s ∈ xs, 0 ≤ s.1 ∧ s.1 ≤ 9) :
    Calls Try.prog 43 #[.slice A xs.length c] w fun e w' => e = .returned (.agg (arr (vals xs))) ∧ Below w.heap.size w w' := by
  have hmax := h.max
  have hcap := h.cap
  unfold maxLen at hmax
  have HV := hd hv
  clear hv
  go_enter Try.func43, Try.ntmps43
  go_wp2
  go_loopw [7] (fun i wr => ∃ k : Nat, k ≤ 10 ∧ i = .int .i64 k ∧ Arr wr (w.heap.size + 1) (fun j => if j < k then -1 else 0) ∧ Arr wr w.heap.size (fun _ => 0) ∧ Below w.heap.size w wr) (fun i _ => 10 - (intOf i).toNat)
  case atStart => exact ⟨0, by omega, rfl, (show Arr _ (w.heap.size + 1) (fun _ => 0) by have := Arr.new (w.alloc (.cells (arr fun _ => 0) 54)) (fun _ => 0); rwa [World.size_alloc] at this).congr (by simp), (Arr.new w (fun _ => 0)).ext ((Below.refl _ _).alloc (Nat.le_refl _) _), ((Below.refl _ _).alloc (Nat.le_refl _) _).alloc (by simp) _⟩
  case round =>
    obtain ⟨k, hk, rfl, hA, hR, hb⟩ := hrel
    by_cases hlt : k < 10
    · have c0 := hA.cell hlt
      have c1 := hA.free k
      have HS := hd (show Arr (wr.setCell ⟨w.heap.size + 1, k, none⟩ (.int .i64 (-1))) (w.heap.size + 1) (fun j => if j < k + 1 then -1 else 0) by
        have := hA.set hlt (-1)
        refine this.congr fun j _ => ?_
        simp only [upd]
        by_cases e : j = k
        · subst e; simp
        · by_cases e2 : j < k
          · rw [if_neg e, if_pos e2, if_pos (by omega)]
          · rw [if_neg e, if_neg e2, if_neg (by omega)])
      have HR := hd (show Arr (wr.setCell ⟨w.heap.size + 1, k, none⟩ (.int .i64 (-1))) w.heap.size (fun _ => 0) from (Below.heap_setCell _ _ _ _ (by simp)).trans hR)
      have HB := hd (hb.setCell (p := ⟨w.heap.size + 1, k, none⟩) (by simp) (.int .i64 (-1)))
      clear hA hR hb
      go_wp2
      go_roundw
      case rel => exact ⟨k + 1, by omega, by go_num, HS.out, HR.out, HB.out⟩
      case measure => simp [intOf]; omega
    · obtain rfl : k = 10 := by omega
      have hA1 : Arr wr (w.heap.size + 1) (vals (xs.take 0)) := hA.congr fun j hj => by rw [if_pos hj]; rfl
      clear hA
      go_wp2
      go_loopw [15] (fun i wr => ∃ k : Nat, k ≤ xs.length ∧ i = .int .i64 k ∧ Arr wr (w.heap.size + 1) (vals (xs.take k)) ∧ Arr wr w.heap.size (fun _ => 0) ∧ Below w.heap.size w wr) (fun i _ => xs.length - (intOf i).toNat)
      case atStart => exact ⟨0, by omega, rfl, hA1, hR, hb⟩
      case round =>
        clear hA1 hR hb
        obtain ⟨k, hk, rfl, hA, hR, hb⟩ := hrel
        by_cases hlt : k < xs.length
        · obtain ⟨ad, rfl, hbl, hc0, hc1⟩ := (h.ext hb).at hlt
          have hx := HV.out xs[k] (List.getElem_mem hlt)
          have hx1 := hx.1
          have hx2 := hx.2
          have hx3 : xs[k].1 < 10 := by omega
          have hxt : xs[k].1.toNat < 10 := by omega
          clear hx
          have c0 : ∀ o, (wr.alloc o).cell? ⟨w.heap.size + 1, xs[k].1.toNat, none⟩ = some (.int .i64 (vals (xs.take k) xs[k].1.toNat)) := fun o => (hA.ext ((Below.refl _ _).alloc (Nat.le_refl _) o)).cell hxt
          have c1 : ∀ o, (wr.alloc o).frozen? ⟨w.heap.size + 1, xs[k].1.toNat, none⟩ = false := fun o => (hA.ext ((Below.refl _ _).alloc (Nat.le_refl _) o)).free _
          have HA := hd hA
          have HR := hd hR
          have HB := hd hb
          clear hA hR hb
          go_wp2
          go_roundw
          case rel => exact ⟨k + 1, by omega, by go_num, by rw [vals_take xs k hlt]; exact (HA.out.ext ((Below.refl _ _).alloc (Nat.le_refl _) _)).set hxt _, (Below.heap_setCell _ _ _ _ (by simp)).trans (HR.out.ext ((Below.refl _ _).alloc (Nat.le_refl _) _)), (HB.out.alloc HB.out.size _).setCell (by simp) _⟩
          case measure => simp [intOf]; omega
        · obtain rfl : k = xs.length := by omega
          rw [List.take_length] at hA
          have c0 := hA.cell (i := 0) (by omega)
          have d0 := hR.cell (i := 0) (by omega)
          have e0 := hR.free 0
          have c1 := hA.cell (i := 1) (by omega)
          have d1 := hR.cell (i := 1) (by omega)
          have e1 := hR.free 1
          have c2 := hA.cell (i := 2) (by omega)
          have d2 := hR.cell (i := 2) (by omega)
          have e2 := hR.free 2
          have c3 := hA.cell (i := 3) (by omega)
          have d3 := hR.cell (i := 3) (by omega)
          have e3 := hR.free 3
          have c4 := hA.cell (i := 4) (by omega)
          have d4 := hR.cell (i := 4) (by omega)
          have e4 := hR.free 4
          have c5 := hA.cell (i := 5) (by omega)
          have d5 := hR.cell (i := 5) (by omega)
          have e5 := hR.free 5
          have c6 := hA.cell (i := 6) (by omega)
          have d6 := hR.cell (i := 6) (by omega)
          have e6 := hR.free 6
          have c7 := hA.cell (i := 7) (by omega)
          have d7 := hR.cell (i := 7) (by omega)
          have e7 := hR.free 7
          have c8 := hA.cell (i := 8) (by omega)
          have d8 := hR.cell (i := 8) (by omega)
          have e8 := hR.free 8
          have c9 := hA.cell (i := 9) (by omega)
          have d9 := hR.cell (i := 9) (by omega)
          have e9 := hR.free 9
          have HB := hd hb
          clear hA hR hb
          go_wp2
          refine bodyPost_ret (v := .agg (arr (vals xs))) ?_ rfl ⟨rfl, ?_⟩
          · simp [results, Try.results43, go_sem, arr, d0, d1, d2, d3, d4, d5, d6, d7, d8, d9]
          · have hs := fun (X : World) (i : Nat) (v : Value) (h : Below w.heap.size w X) => h.setCell (p := ⟨w.heap.size, i, none⟩) (Nat.le_refl _) v
            exact hs _ _ _ (hs _ _ _ (hs _ _ _ (hs _ _ _ (hs _ _ _ (hs _ _ _ (hs _ _ _ (hs _ _ _ (hs _ _ _ (hs _ _ _ HB.out)))))))))

theorem clipS_any (A : Option Addr) (n c : Nat) (w : World) (h : n ≤ c) (hc : c ≤ maxLen) :
    Calls Try.prog 44 #[.slice A n c] w fun e w' => e = .returned (.slice A n n) ∧ w = w' := by
  unfold maxLen at hc
  go_enter Try.func44, Try.ntmps44
  go_wp2
  go_ret
  exact ⟨rfl, rfl⟩
theorem eltS : Elt Try.prog 23 40 (.agg #[.int .i64 0, .int .i64 0]) 2 16 := ⟨Try.underlying23, by kernel_rfl, rfl, by decide⟩
theorem cst_one (xs : List St) : ∀ u ∈ cst xs, u.oneCell' = true := by
  intro u hu
  simp only [cst, List.mem_flatMap] at hu
  obtain ⟨s, _, hs⟩ := hu
  simp at hs
  rcases hs with rfl | rfl <;> rfl
set_option maxHeartbeats 1000000 in
theorem plan_any (A A' : Option Addr) (c c' : Nat) (xs ys : List St) (w : World) (h : SlS w A c xs) (h' : SlS w A' c' ys) (hv : ∀ s ∈ xs, 0 ≤ s.1 ∧ s.1 ≤ 9) (hv' : ∀ s ∈ ys, 0 ≤ s.1 ∧ s.1 ≤ 9) :
    Calls Try.prog 41 #[.slice A xs.length c, .slice A' ys.length c'] w (NewS 40 (planL (vals xs) (vals ys) 10) w) := by
  have HV := hd hv
  have HV' := hd hv'
  clear hv hv'
  have V1 := fun W hW => values_any A c xs W hW HV.out
  have V2 := fun W hW => values_any A' c' ys W hW HV'.out
  generalize vals xs = f at V1 ⊢
  generalize vals ys = g at V2 ⊢
  have W1 := hd V1
  have W2 := hd V2
  clear V1 V2
  go_enter Try.func41, Try.ntmps41
  go_wp2_with fail
  refine (W1.out w h).mono ?_
  rintro e w1 ⟨rfl, hx1⟩
  have h1 := h'.ext hx1
  clear h h' 
  go_wp2_with fail
  refine (W2.out w1 h1).mono ?_
  rintro e w2 ⟨rfl, hx2⟩
  clear h1
  have hb2 := ext_trans hx1 hx2
  clear hx1 hx2
  have hA0 : Arr ((w2.alloc (.cells (arr f) 54)).alloc (.cells (arr g) 54)) w2.heap.size f := (Arr.new w2 _).ext ((Below.refl _ _).alloc (Nat.le_refl _) _)
  have hB0 : Arr ((w2.alloc (.cells (arr f) 54)).alloc (.cells (arr g) 54)) (w2.heap.size + 1) g := by
    have := Arr.new (w2.alloc (.cells (arr f) 54)) g
    rwa [World.size_alloc] at this
  have HA0 := hd hA0
  have HB0 := hd hB0
  clear hA0 hB0
  unfold arr
  go_wp2_with fail
  go_loopw [7, 13] (fun v i wr => ∃ k : Nat, k ≤ 10 ∧ i = .int .i64 k ∧ Arr wr w2.heap.size f ∧ Arr wr (w2.heap.size + 1) g ∧ wr.ownsRow (w2.heap.size + 2) 40 2 v (planL f g k).length (cst (planL f g k)) ∧ Below w.heap.size w wr) (fun _ i _ => 10 - (intOf i).toNat)
  case atStart => exact ⟨0, by omega, rfl, HA0.out, HB0.out, World.ownsRow_nil _ _ _ _, ext_alloc (ext_alloc hb2 _) _⟩
  case round =>
    obtain ⟨k, hk, rfl, hA, hB, hown, hb⟩ := hrel
    have hz : w2.heap.size + 2 ≤ wr.heap.size := by have := hB.lt; omega
    by_cases hlt : k < 10
    · have c0 := hA.cell hlt
      have c1 := hB.cell hlt
      have hkb : (k : Int) < 10 := by omega
      have HB := hd hb
      by_cases hne : f k = g k
      · have e1 : (f k != g k) = false := by simp [hne]
        have e2 : (f k == g k) = true := by simp [hne]
        have HP := hd (show planL f g (k + 1) = planL f g k by rw [planL_succ, if_pos hne]; simp)
        have HA := hd hA
        have HB2 := hd hB
        clear hne hA hB hb
        go_wp2_with fail
        go_quiet (fail)
        go_wp2
        go_roundw
        case rel => exact ⟨k + 1, by omega, by go_num, HA.out, HB2.out, by rw [HP.out]; exact hown, below_drewN HB.out _⟩
        case measure => simp [intOf]; omega
      · have e1 : (f k != g k) = true := by simp [hne]
        have e2 : (f k == g k) = false := by simp [hne]
        have HP := hd (show planL f g (k + 1) = planL f g k ++ [((k : Int), g k)] by rw [planL_succ, if_neg hne])
        have HA := hd hA
        have HB2 := hd hB
        have hl := planL_len f g k
        clear hne hA hB hb
        go_wp2_with fail
        go_quiet (fail)
        have hown2 : (wr.drewN nq).ownsRow (w2.heap.size + 2) 40 2 _ _ _ := hown
        go_wp2_with (at_builtin; refine wpList_app eltS (.tmp 23) (.tmp 29) (news := cst [((k : Int), g k)]) (m := 1) hown2 rfl (cst_one _) (by omega) (by omega) hz (by rfl) (by rfl) (by rfl) (by rfl) ?_; intro v' w3 hown3 hg3)
        go_roundw
        case rel => exact ⟨k + 1, by omega, by go_num, (show Arr (wr.drewN nq) _ _ from HA.out).far hg3 (fun e => by have := own_ge hown2 _ e; omega), (show Arr (wr.drewN nq) _ _ from HB2.out).far hg3 (fun e => by have := own_ge hown2 _ e; omega), by rw [HP.out, cst_append, List.length_append]; exact hown3, (below_drewN HB.out nq).grown hg3 HB.out.size (fun j hj => by have := own_ge hown2 j hj; have := hb2.size; omega)⟩
        case measure => simp [intOf]; omega
    · obtain rfl : k = 10 := by omega
      obtain ⟨A2, c2, rfl, hr⟩ := rwS_of_own hown rfl rfl
      have hr2 := hr.1.cap
      have hr3 := hr.1.max
      have HR := hd (Rw.low (B' := w.heap.size) hr.clip (by have := hb2.size; omega))
      clear hown hr
      go_wp2_with (go_at_call 44; refine (clipS_any _ _ _ _ hr2 hr3).mono ?_; rintro e w' ⟨rfl, rfl⟩)
      go_ret
      exact ⟨A2, _, rfl, HR.out, hb⟩
end Go.Proofs.Ytabemhjbpnnlpaa
