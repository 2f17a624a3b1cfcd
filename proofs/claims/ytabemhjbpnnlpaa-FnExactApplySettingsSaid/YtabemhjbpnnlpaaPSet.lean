/- Settings in plain Lean: no program in sight. -/
import Derived.Test.YtabemhjbpnnlpaaMem
namespace Go.Proofs.Ytabemhjbpnnlpaa

/-- Valid settings behind a name 'last'. -/
def vset : Int → List St → Bool
  | _, [] => true
  | last, s :: r => decide (last + 1 ≤ s.1 ∧ s.1 ≤ 9) && decide (0 ≤ s.2 ∧ s.2 ≤ 20) && vset s.1 r
/-- Settings are valid. -/
def VS (xs : List St) : Bool := vset (-1) xs
theorem vset_drop (l : Int) (xs : List St) (k : Nat) (h : k < xs.length) :
    vset l (xs.drop k) = (decide (l + 1 ≤ xs[k].1 ∧ xs[k].1 ≤ 9) && decide (0 ≤ xs[k].2 ∧ xs[k].2 ≤ 20) && vset xs[k].1 (xs.drop (k + 1))) := by
  rw [List.drop_eq_getElem_cons h]; rfl
theorem vset_done (l : Int) (xs : List St) : vset l (xs.drop xs.length) = true := by simp [vset]
theorem vset_low {xs : List St} {q q' : Int} (h : vset q' xs = true) (hq : q ≤ q') : vset q xs = true := by
  cases xs with
  | nil => rfl
  | cons s r =>
    simp only [vset, Bool.and_eq_true, decide_eq_true_eq] at h ⊢
    exact ⟨⟨⟨by omega, h.1.1.2⟩, h.1.2⟩, h.2⟩
theorem vset_without {xs : List St} {q : Int} (h : vset q xs = true) (k : Nat) : vset q (xs.take k ++ xs.drop (k + 1)) = true := by
  induction xs generalizing q k with
  | nil => simp [vset]
  | cons s r ih =>
    simp only [vset, Bool.and_eq_true, decide_eq_true_eq] at h
    cases k with
    | zero => simpa using vset_low h.2 (by omega)
    | succ k =>
      simp only [List.take_succ_cons, List.cons_append, List.drop_succ_cons, vset, Bool.and_eq_true, decide_eq_true_eq]
      exact ⟨h.1, ih h.2 k⟩
theorem vset_len {xs : List St} {q : Int} (h : vset q xs = true) (hq : q ≤ 9) : (xs.length : Int) + q ≤ 9 := by
  induction xs generalizing q with
  | nil => simpa using hq
  | cons s r ih =>
    simp only [vset, Bool.and_eq_true, decide_eq_true_eq] at h
    have := ih h.2 h.1.1.2
    simp only [List.length_cons]
    omega
theorem VS_len {xs : List St} (h : VS xs = true) : xs.length ≤ 10 := by have := vset_len h (by omega); omega
/-- The value of a name, -1 for none. -/
def vof : List St → Int → Int
  | [], _ => -1
  | s :: r, n => if s.1 = n then s.2 else vof r n
theorem vof_drop (xs : List St) (k : Nat) (n : Int) (h : k < xs.length) : vof (xs.drop k) n = if xs[k].1 = n then xs[k].2 else vof (xs.drop (k + 1)) n := by
  rw [List.drop_eq_getElem_cons h]; rfl
theorem vof_done (xs : List St) (n : Int) : vof (xs.drop xs.length) n = -1 := by simp [vof]
def upd (f : Nat → Int) (i : Nat) (v : Int) : Nat → Int := fun j => if j = i then v else f j
/-- What 'values' gives: each name's value, -1 for none (the last one counts). -/
def vals (xs : List St) : Nat → Int := xs.foldl (fun f s => upd f s.1.toNat s.2) (fun _ => -1)
theorem vals_take (xs : List St) (k : Nat) (h : k < xs.length) : vals (xs.take (k + 1)) = upd (vals (xs.take k)) xs[k].1.toNat xs[k].2 := by
  unfold vals
  rw [List.take_succ_eq_append_getElem h, List.foldl_append]
  rfl
/-- The changes from f to g, names below k. -/
def planL (f g : Nat → Int) (k : Nat) : List St := (List.range k).filterMap fun n => if f n = g n then none else some ((n : Int), g n)
theorem planL_succ (f g : Nat → Int) (k : Nat) : planL f g (k + 1) = planL f g k ++ (if f k = g k then [] else [((k : Int), g k)]) := by
  unfold planL
  rw [List.range_succ, List.filterMap_append]
  by_cases h : f k = g k <;> simp [h]
theorem planL_len (f g : Nat → Int) (k : Nat) : (planL f g k).length ≤ k := by
  unfold planL
  exact Nat.le_trans (List.length_filterMap_le _ _) (by simp)

theorem vset_tail {s : St} {r : List St} {q : Int} (h : vset q (s :: r) = true) : q + 1 ≤ s.1 ∧ s.1 ≤ 9 ∧ 0 ≤ s.2 ∧ s.2 ≤ 20 ∧ vset s.1 r = true := by
  simp only [vset, Bool.and_eq_true, decide_eq_true_eq] at h
  exact ⟨h.1.1.1, h.1.1.2, h.1.2.1, h.1.2.2, h.2⟩
theorem vset_mem {xs : List St} {q : Int} (hq : -1 ≤ q) (h : vset q xs = true) : ∀ s ∈ xs, 0 ≤ s.1 ∧ s.1 ≤ 9 ∧ 0 ≤ s.2 ∧ s.2 ≤ 20 := by
  induction xs generalizing q with
  | nil => intro s hs; cases hs
  | cons x r ih =>
    obtain ⟨a, b, c, d, e⟩ := vset_tail h
    intro s hs
    rcases List.mem_cons.1 hs with rfl | hs
    · exact ⟨by omega, b, c, d⟩
    · exact ih (by omega) e s hs
theorem VS_mem {xs : List St} (h : VS xs = true) : ∀ s ∈ xs, 0 ≤ s.1 ∧ s.1 ≤ 9 := fun s hs => ⟨(vset_mem (by omega) h s hs).1, (vset_mem (by omega) h s hs).2.1⟩
theorem vof_low {xs : List St} {q n : Int} (h : vset q xs = true) (hn : n ≤ q) : vof xs n = -1 := by
  induction xs generalizing q with
  | nil => rfl
  | cons x r ih =>
    obtain ⟨a, _, _, _, e⟩ := vset_tail h
    simp only [vof]
    rw [if_neg (by omega)]
    exact ih e (by omega)
theorem vof_ge {xs : List St} {q : Int} (h : vset q xs = true) (n : Int) : -1 ≤ vof xs n := by
  induction xs generalizing q with
  | nil => simp [vof]
  | cons x r ih =>
    obtain ⟨_, _, c, _, e⟩ := vset_tail h
    simp only [vof]
    split
    · omega
    · exact ih e
theorem foldl_vof {xs : List St} {q : Int} (hq : -1 ≤ q) (h : vset q xs = true) (f : Nat → Int) (n : Nat) :
    xs.foldl (fun f s => upd f s.1.toNat s.2) f n = if vof xs n = -1 then f n else vof xs n := by
  induction xs generalizing q f with
  | nil => simp [vof]
  | cons x r ih =>
    obtain ⟨a, _, c, _, e⟩ := vset_tail h
    rw [List.foldl_cons, ih (by omega) e]
    by_cases hx : x.1 = (n : Int)
    · have e1 : vof (x :: r) n = x.2 := if_pos hx
      rw [e1, vof_low e (by omega), if_pos rfl, if_neg (by omega)]
      exact if_pos (by omega)
    · have e1 : vof (x :: r) n = vof r n := if_neg hx
      have e2 : upd f x.1.toNat x.2 n = f n := if_neg (by omega)
      rw [e1, e2]
theorem vals_vof {xs : List St} (h : VS xs = true) (n : Nat) : vals xs n = vof xs n := by
  unfold vals
  rw [foldl_vof (by omega) h]
  split
  · rename_i e; exact e.symm
  · rfl
theorem vals_ge {xs : List St} (h : VS xs = true) (n : Nat) : -1 ≤ vals xs n := by rw [vals_vof h]; exact vof_ge h n

/-- The settings that f tells, names below k. -/
def buildL (f : Nat → Int) (k : Nat) : List St := (List.range k).filterMap fun n => if 0 ≤ f n then some ((n : Int), f n) else none
theorem buildL_succ (f : Nat → Int) (k : Nat) : buildL f (k + 1) = buildL f k ++ (if 0 ≤ f k then [((k : Int), f k)] else []) := by
  unfold buildL
  rw [List.range_succ, List.filterMap_append]
  by_cases h : 0 ≤ f k <;> simp [h]
theorem buildL_len (f : Nat → Int) (k : Nat) : (buildL f k).length ≤ k := by
  unfold buildL
  exact Nat.le_trans (List.length_filterMap_le _ _) (by simp)
theorem buildL_congr {f g : Nat → Int} (k : Nat) (h : ∀ n, n < k → f n = g n) : buildL f k = buildL g k := by
  induction k with
  | zero => rfl
  | succ k ih => rw [buildL_succ, buildL_succ, ih (fun n hn => h n (by omega)), h k (by omega)]
theorem planL_congr {f g f' g' : Nat → Int} (k : Nat) (h : ∀ n, n < k → f n = f' n) (h' : ∀ n, n < k → g n = g' n) : planL f g k = planL f' g' k := by
  induction k with
  | zero => rfl
  | succ k ih => rw [planL_succ, planL_succ, ih (fun n hn => h n (by omega)) (fun n hn => h' n (by omega)), h k (by omega), h' k (by omega)]
theorem vof_append (xs ys : List St) (n : Int) : vof (xs ++ ys) n = if (∃ s ∈ xs, s.1 = n) then vof xs n else vof ys n := by
  induction xs with
  | nil => simp
  | cons x r ih =>
    simp only [List.cons_append, vof, ih]
    by_cases hx : x.1 = n
    · simp [hx]
    · rw [if_neg hx, if_neg hx]
      by_cases hr : ∃ s ∈ r, s.1 = n
      · rw [if_pos hr, if_pos]
        obtain ⟨s, hs, e⟩ := hr
        exact ⟨s, List.mem_cons_of_mem _ hs, e⟩
      · rw [if_neg hr, if_neg]
        rintro ⟨s, hs, e⟩
        rcases List.mem_cons.1 hs with rfl | hs
        · exact hx e
        · exact hr ⟨s, hs, e⟩
theorem buildL_mem {f : Nat → Int} {k : Nat} {s : St} (h : s ∈ buildL f k) : ∃ n, n < k ∧ 0 ≤ f n ∧ s = ((n : Int), f n) := by
  unfold buildL at h
  simp only [List.mem_filterMap, List.mem_range] at h
  obtain ⟨n, hn, e⟩ := h
  split at e
  · rename_i h0; injection e with e; exact ⟨n, hn, h0, e.symm⟩
  · cases e
theorem vof_none {xs : List St} {n : Int} (h : ¬ ∃ s ∈ xs, s.1 = n) : vof xs n = -1 := by
  induction xs with
  | nil => rfl
  | cons x r ih =>
    simp only [vof]
    rw [if_neg (fun e => h ⟨x, List.mem_cons_self, e⟩)]
    exact ih fun ⟨s, hs, e⟩ => h ⟨s, List.mem_cons_of_mem _ hs, e⟩
theorem vof_buildL (f : Nat → Int) (k n : Nat) : vof (buildL f k) n = if n < k ∧ 0 ≤ f n then f n else -1 := by
  induction k with
  | zero => simp [buildL, vof]
  | succ k ih =>
    rw [buildL_succ, vof_append]
    by_cases hs : ∃ s ∈ buildL f k, s.1 = (n : Int)
    · rw [if_pos hs, ih]
      obtain ⟨s, hs, e⟩ := hs
      obtain ⟨m, hm, h0, rfl⟩ := buildL_mem hs
      have e : (m : Int) = n := e
      have : m = n := by omega
      subst this
      rw [if_pos ⟨hm, h0⟩, if_pos ⟨by omega, h0⟩]
    · have hk := ih
      rw [if_neg hs]
      rw [vof_none hs] at hk
      by_cases h0 : 0 ≤ f k
      · rw [if_pos h0]
        simp only [vof]
        by_cases e : (k : Int) = n
        · have : k = n := by omega
          subst this
          rw [if_pos rfl, if_pos ⟨by omega, h0⟩]
        · rw [if_neg e]
          by_cases h1 : n < k ∧ 0 ≤ f n
          · rw [if_pos h1] at hk; omega
          · rw [if_neg (fun h => h1 ⟨by have := h.1; omega, h.2⟩)]
      · rw [if_neg h0]
        simp only [vof]
        by_cases h1 : n < k ∧ 0 ≤ f n
        · rw [if_pos h1] at hk; omega
        · rw [if_neg]
          intro h
          by_cases e : n = k
          · subst e; exact h0 h.2
          · exact h1 ⟨by have := h.1; omega, h.2⟩
/-- Two ascending lists of settings that tell the same values are one. -/
theorem vset_ext {xs ys : List St} {q : Int} (hx : vset q xs = true) (hy : vset q ys = true) (h : ∀ n : Int, vof xs n = vof ys n) : xs = ys := by
  induction xs generalizing ys q with
  | nil =>
    cases ys with
    | nil => rfl
    | cons y r =>
      obtain ⟨_, _, c, _, _⟩ := vset_tail hy
      have h1 : vof (y :: r) y.1 = y.2 := if_pos rfl
      have h2 : vof [] y.1 = -1 := rfl
      have := h y.1
      omega
  | cons x r ih =>
    obtain ⟨a, b, c, d, e⟩ := vset_tail hx
    cases ys with
    | nil =>
      have h1 : vof (x :: r) x.1 = x.2 := if_pos rfl
      have h2 : vof [] x.1 = -1 := rfl
      have := h x.1
      omega
    | cons y r' =>
      obtain ⟨a', b', c', d', e'⟩ := vset_tail hy
      have hxy : x.1 = y.1 := by
        rcases Int.lt_trichotomy x.1 y.1 with hlt | heq | hgt
        · have h1 : vof (x :: r) x.1 = x.2 := if_pos rfl
          have h2 : vof (y :: r') x.1 = vof r' x.1 := if_neg (by omega)
          have h3 := vof_low e' (n := x.1) (by omega)
          have := h x.1
          omega
        · exact heq
        · have h1 : vof (y :: r') y.1 = y.2 := if_pos rfl
          have h2 : vof (x :: r) y.1 = vof r y.1 := if_neg (by omega)
          have h3 := vof_low e (n := y.1) (by omega)
          have := h y.1
          omega
      have hv : x.2 = y.2 := by
        have h1 : vof (x :: r) x.1 = x.2 := if_pos rfl
        have h2 : vof (y :: r') x.1 = y.2 := if_pos hxy.symm
        have := h x.1
        omega
      have hr : r = r' := by
        refine ih (q := x.1) e (by rw [hxy]; exact e') fun n => ?_
        have := h n
        simp only [vof] at this
        by_cases hn : x.1 = n
        · rw [vof_low e (by omega), vof_low e' (by omega)]
        · rw [if_neg hn, if_neg (by omega)] at this
          exact this
      have : x = y := Prod.ext hxy hv
      rw [this, hr]
theorem vset_snoc {xs : List St} {q : Int} {s : St} (h : vset q xs = true) (h1 : ∀ x ∈ xs, x.1 < s.1) (hq : q < s.1) (h2 : s.1 ≤ 9 ∧ 0 ≤ s.2 ∧ s.2 ≤ 20) : vset q (xs ++ [s]) = true := by
  induction xs generalizing q with
  | nil => simp [vset, h2, hq]; omega
  | cons x r ih =>
    obtain ⟨a, b, c, d, e⟩ := vset_tail h
    simp only [List.cons_append, vset, Bool.and_eq_true, decide_eq_true_eq]
    exact ⟨⟨⟨a, b⟩, c, d⟩, ih e (fun y hy => h1 y (List.mem_cons_of_mem _ hy)) (h1 x List.mem_cons_self)⟩
theorem VS_build (f : Nat → Int) (k : Nat) (hk : k ≤ 10) (h : ∀ n, n < k → f n ≤ 20) : VS (buildL f k) = true := by
  induction k with
  | zero => rfl
  | succ k ih =>
    rw [buildL_succ]
    have := ih (by omega) (fun n hn => h n (by omega))
    split
    · rename_i h0
      refine vset_snoc this (fun x hx => ?_) (by simp; omega) ⟨by simp; omega, h0, h k (by omega)⟩
      obtain ⟨m, hm, _, rfl⟩ := buildL_mem hx
      simp; omega
    · simpa using this
theorem vals_le {xs : List St} (h : VS xs = true) (n : Nat) : vals xs n ≤ 20 := by
  rw [vals_vof h]
  have : ∀ (ys : List St) (q : Int), vset q ys = true → ∀ m, vof ys m ≤ 20 := by
    intro ys
    induction ys with
    | nil => intro _ _ m; simp [vof]
    | cons y r ih =>
      intro q hq m
      obtain ⟨_, _, _, d, e⟩ := vset_tail hq
      simp only [vof]
      split
      · exact d
      · exact ih _ e m
  exact this xs _ h n
theorem build_vals {xs : List St} (h : VS xs = true) : buildL (vals xs) 10 = xs := by
  refine vset_ext (q := -1) (VS_build _ 10 (by omega) fun n _ => vals_le h n) h fun n => ?_
  by_cases hn : 0 ≤ n
  · obtain ⟨m, rfl⟩ := Int.eq_ofNat_of_zero_le hn
    rw [vof_buildL, vals_vof h]
    by_cases h1 : m < 10 ∧ 0 ≤ vof xs m
    · rw [if_pos h1]
    · rw [if_neg h1]
      have hge := vof_ge h m
      by_cases h2 : m < 10
      · have : ¬ 0 ≤ vof xs m := fun h3 => h1 ⟨h2, h3⟩
        omega
      · refine (vof_none ?_).symm
        rintro ⟨s, hs, e⟩
        have := (VS_mem h s hs).2
        omega
  · rw [vof_low (VS_build _ 10 (by omega) fun n _ => vals_le h n) (by omega), vof_low h (by omega)]

/-- A change is one. -/
def okC (c : St) : Bool := decide (0 ≤ c.1 ∧ c.1 ≤ 9) && decide (-1 ≤ c.2 ∧ c.2 ≤ 20)
/-- The values behind changes. -/
def fin (f : Nat → Int) (cs : List St) : Nat → Int := cs.foldl (fun f s => upd f s.1.toNat s.2) f
theorem fin_take (f : Nat → Int) (cs : List St) (k : Nat) (h : k < cs.length) : fin f (cs.take (k + 1)) = upd (fin f (cs.take k)) cs[k].1.toNat cs[k].2 := by
  unfold fin
  rw [List.take_succ_eq_append_getElem h, List.foldl_append]
  rfl
/-- Changed settings. -/
def appS (xs cs : List St) : Option (List St) := if VS xs = true ∧ cs.length ≤ 16 ∧ cs.all okC = true then some (buildL (fin (vals xs) cs) 10) else none
theorem fin_bd {f : Nat → Int} {cs : List St} (hf : ∀ n, -1 ≤ f n ∧ f n ≤ 20) (h : cs.all okC = true) (n : Nat) : -1 ≤ fin f cs n ∧ fin f cs n ≤ 20 := by
  induction cs generalizing f with
  | nil => exact hf n
  | cons c r ih =>
    simp only [List.all_cons, Bool.and_eq_true] at h
    have hc := h.1
    simp only [okC, Bool.and_eq_true, decide_eq_true_eq] at hc
    exact ih (f := upd f c.1.toNat c.2) (fun m => by
    unfold upd
    split
    · exact hc.2
    · exact hf m) h.2
/-- One step of the reference's: the change of a list. -/
def step1 (xs : List St) (c : St) : List St := buildL (fun n => if (n : Int) = c.1 then c.2 else vof xs n) 10
theorem step1_build {f : Nat → Int} {c : St} (hf : ∀ n, -1 ≤ f n) (hc : okC c = true) : step1 (buildL f 10) c = buildL (upd f c.1.toNat c.2) 10 := by
  simp only [okC, Bool.and_eq_true, decide_eq_true_eq] at hc
  refine buildL_congr 10 fun n hn => ?_
  unfold upd
  by_cases e : (n : Int) = c.1
  · rw [if_pos e, if_pos (by omega)]
  · rw [if_neg e, if_neg (by omega), vof_buildL]
    have := hf n
    split
    · rfl
    · rename_i h
      have : ¬ 0 ≤ f n := fun h0 => h ⟨hn, h0⟩
      omega
theorem steps_take {xs cs : List St} (hx : VS xs = true) (hc : cs.all okC = true) : cs.foldl step1 xs = buildL (fin (vals xs) cs) 10 := by
  have gen : ∀ (cs : List St) (f : Nat → Int), (∀ n, -1 ≤ f n) → cs.all okC = true → cs.foldl step1 (buildL f 10) = buildL (fin f cs) 10 := by
    intro cs
    induction cs with
    | nil => intro f _ _; rfl
    | cons c r ih =>
      intro f hf h
      simp only [List.all_cons, Bool.and_eq_true] at h
      rw [List.foldl_cons, step1_build hf h.1]
      have hc := h.1
      simp only [okC, Bool.and_eq_true, decide_eq_true_eq] at hc
      exact ih (upd f c.1.toNat c.2) (fun n => by
        unfold upd
        split
        · exact hc.2.1
        · exact hf n) h.2
  have := gen cs (vals xs) (fun n => vals_ge hx n) hc
  rwa [build_vals hx] at this
/-- The plan, nothing for settings that are not valid. -/
def resetL (xs ys : List St) : List St := if VS xs = true ∧ VS ys = true then planL (vals xs) (vals ys) 10 else []

theorem planL_sym (f g : Nat → Int) (k : Nat) : (planL g f k).length = (planL f g k).length := by
  induction k with
  | zero => rfl
  | succ k ih =>
    rw [planL_succ, planL_succ, List.length_append, List.length_append, ih]
    by_cases h : f k = g k
    · rw [if_pos h, if_pos h.symm]
    · rw [if_neg h, if_neg (fun e => h e.symm)]; rfl
theorem planL_nil {f g : Nat → Int} {k : Nat} : planL f g k = [] ↔ ∀ n, n < k → f n = g n := by
  induction k with
  | zero => exact ⟨fun _ n hn => absurd hn (Nat.not_lt_zero _), fun _ => rfl⟩
  | succ k ih =>
    rw [planL_succ, List.append_eq_nil_iff, ih]
    constructor
    · intro ⟨h1, h2⟩ n hn
      by_cases e : n = k
      · subst e
        by_cases h : f n = g n
        · exact h
        · rw [if_neg h] at h2; cases h2
      · exact h1 n (by omega)
    · intro h
      exact ⟨fun n hn => h n (by omega), if_pos (h k (by omega))⟩
theorem planL_bound {f g : Nat → Int} (hf : ∀ n, -1 ≤ f n) (hg : ∀ n, -1 ≤ g n) (k : Nat) : (planL f g k).length ≤ (buildL f k).length + (buildL g k).length := by
  induction k with
  | zero => simp [planL]
  | succ k ih =>
    rw [planL_succ, buildL_succ, buildL_succ]
    simp only [List.length_append]
    by_cases h : f k = g k
    · rw [if_pos h]; simp; omega
    · rw [if_neg h]
      by_cases h1 : 0 ≤ f k
      · rw [if_pos h1]; simp; omega
      · have := hf k
        have := hg k
        rw [if_pos (show 0 ≤ g k by omega)]; simp; omega
theorem fin_append (f : Nat → Int) (xs ys : List St) : fin f (xs ++ ys) = fin (fin f xs) ys := by unfold fin; rw [List.foldl_append]
theorem fin_planL (f g : Nat → Int) (k n : Nat) : fin f (planL f g k) n = if n < k then g n else f n := by
  induction k with
  | zero => rfl
  | succ k ih =>
    rw [planL_succ, fin_append]
    by_cases h : f k = g k
    · rw [if_pos h]
      show fin f (planL f g k) n = _
      rw [ih]
      by_cases h1 : n < k
      · rw [if_pos h1, if_pos (by omega)]
      · rw [if_neg h1]
        by_cases h2 : n = k
        · subst h2; rw [if_pos (by omega)]; exact h
        · rw [if_neg (by omega)]
    · rw [if_neg h]
      show upd (fin f (planL f g k)) ((k : Int)).toNat (g k) n = _
      unfold upd
      rw [Int.toNat_natCast, ih]
      by_cases h2 : n = k
      · subst h2; rw [if_pos rfl, if_pos (by omega)]
      · rw [if_neg h2]
        by_cases h1 : n < k
        · rw [if_pos h1, if_pos (by omega)]
        · rw [if_neg h1, if_neg (by omega)]
theorem planL_ok {f g : Nat → Int} (hg : ∀ n, -1 ≤ g n ∧ g n ≤ 20) {k : Nat} (hk : k ≤ 10) : (planL f g k).all okC = true := by
  induction k with
  | zero => rfl
  | succ k ih =>
    rw [planL_succ, List.all_append, ih (by omega)]
    by_cases h : f k = g k
    · rw [if_pos h]; rfl
    · rw [if_neg h]
      simp only [List.all_cons, List.all_nil, Bool.and_true, Bool.true_and, okC]
      rw [decide_eq_true (show (0 : Int) ≤ (k : Int) ∧ (k : Int) ≤ 9 by omega), decide_eq_true (hg k)]
      rfl
theorem vals_bd {xs : List St} (h : VS xs = true) (n : Nat) : -1 ≤ vals xs n ∧ vals xs n ≤ 20 := ⟨vals_ge h n, vals_le h n⟩
theorem appS_planL {xs : List St} {g : Nat → Int} (hx : VS xs = true) (hg : ∀ n, -1 ≤ g n ∧ g n ≤ 20) : appS xs (planL (vals xs) g 10) = some (buildL g 10) := by
  have hl := planL_len (vals xs) g 10
  have e : appS xs (planL (vals xs) g 10) = some (buildL (fin (vals xs) (planL (vals xs) g 10)) 10) := if_pos ⟨hx, by omega, planL_ok hg (by omega)⟩
  rw [e]
  congr 1
  exact buildL_congr 10 fun n hn => by rw [fin_planL, if_pos hn]
/-- The plan without one of its changes is the plan to other values. -/
theorem planL_without (f g : Nat → Int) (m k : Nat) (h : k < (planL f g m).length) : ∃ n, n < m ∧ f n ≠ g n ∧ (planL f g m).take k ++ (planL f g m).drop (k + 1) = planL f (upd g n (f n)) m := by
  induction m with
  | zero => simp [planL] at h
  | succ m ih =>
    have same : ∀ n, n ≠ m → upd g n (f n) m = g m := fun n hn => if_neg (fun e => hn e.symm)
    rw [planL_succ] at h ⊢
    by_cases he : f m = g m
    · rw [if_pos he, List.append_nil] at h ⊢
      obtain ⟨n, hn, hne, e⟩ := ih h
      refine ⟨n, by omega, hne, ?_⟩
      rw [e, planL_succ, same n (by omega), if_pos he, List.append_nil]
    · rw [if_neg he] at h ⊢
      by_cases hk : k < (planL f g m).length
      · obtain ⟨n, hn, hne, e⟩ := ih hk
        refine ⟨n, by omega, hne, ?_⟩
        rw [planL_succ, same n (by omega), if_neg he, ← e, List.take_append_of_le_length (by omega), List.drop_append_of_le_length (by omega), List.append_assoc]
      · have hk2 : k = (planL f g m).length := by simp at h; omega
        refine ⟨m, by omega, he, ?_⟩
        rw [planL_succ]
        have e1 : upd g m (f m) m = f m := if_pos rfl
        rw [e1, if_pos rfl, List.append_nil, hk2, List.take_left, List.drop_of_length_le (by simp), List.append_nil]
        exact planL_congr m (fun _ _ => rfl) (fun n hn => (if_neg (by omega)).symm)
theorem resetL_valid {xs ys : List St} (hx : VS xs = true) (hy : VS ys = true) : resetL xs ys = planL (vals xs) (vals ys) 10 := if_pos ⟨hx, hy⟩
theorem resetL_nil {xs ys : List St} (hx : VS xs = true) (hy : VS ys = true) : resetL xs ys = [] ↔ xs = ys := by
  rw [resetL_valid hx hy, planL_nil]
  constructor
  · intro h
    rw [← build_vals hx, ← build_vals hy]
    exact buildL_congr 10 h
  · rintro rfl n _; rfl
theorem resetL_sym (xs ys : List St) : (resetL ys xs).length = (resetL xs ys).length := by
  unfold resetL
  by_cases h : VS xs = true ∧ VS ys = true
  · rw [if_pos h, if_pos ⟨h.2, h.1⟩]; exact planL_sym _ _ _
  · rw [if_neg h, if_neg (fun hh => h ⟨hh.2, hh.1⟩)]
theorem resetL_len (xs ys : List St) : (resetL xs ys).length ≤ 10 := by
  unfold resetL
  split
  · exact planL_len _ _ _
  · simp
theorem resetL_app {xs ys : List St} (hx : VS xs = true) (hy : VS ys = true) : appS xs (resetL xs ys) = some ys := by
  rw [resetL_valid hx hy, appS_planL hx (vals_bd hy), build_vals hy]
theorem resetL_bound {xs ys : List St} (hx : VS xs = true) (hy : VS ys = true) : (resetL xs ys).length ≤ xs.length + ys.length := by
  rw [resetL_valid hx hy]
  have := planL_bound (vals_ge hx) (vals_ge hy) 10
  rwa [build_vals hx, build_vals hy] at this
theorem resetL_without {xs ys : List St} (hx : VS xs = true) (hy : VS ys = true) {k : Nat} (h : k < (resetL xs ys).length) :
    ∃ zs, appS xs ((resetL xs ys).take k ++ (resetL xs ys).drop (k + 1)) = some zs ∧ zs ≠ ys := by
  rw [resetL_valid hx hy] at h ⊢
  obtain ⟨n, hn, hne, e⟩ := planL_without _ _ 10 k h
  rw [e]
  have hb : ∀ m, -1 ≤ upd (vals ys) n (vals xs n) m ∧ upd (vals ys) n (vals xs n) m ≤ 20 := fun m => by
    unfold upd
    split
    · exact vals_bd hx n
    · exact vals_bd hy m
  refine ⟨_, appS_planL hx hb, fun hh => hne ?_⟩
  have h1 := vof_buildL (upd (vals ys) n (vals xs n)) 10 n
  rw [hh] at h1
  have e1 : upd (vals ys) n (vals xs n) n = vals xs n := if_pos rfl
  have h2 := vals_vof hy n
  have h3 := vals_ge hx n
  rw [e1] at h1
  by_cases h0 : 0 ≤ vals xs n
  · rw [if_pos ⟨hn, h0⟩] at h1; omega
  · rw [if_neg (fun hh => h0 hh.2)] at h1; omega
theorem resetL_vs {xs ys : List St} (h : resetL xs ys ≠ []) : VS xs = true ∧ VS ys = true := by
  by_cases hv : VS xs = true ∧ VS ys = true
  · exact hv
  · exact absurd (if_neg hv) h
end Go.Proofs.Ytabemhjbpnnlpaa
