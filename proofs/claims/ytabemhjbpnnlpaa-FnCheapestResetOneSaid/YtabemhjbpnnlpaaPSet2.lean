/- Settings in plain Lean, more: what changes do. -/
import Derived.Test.YtabemhjbpnnlpaaPSet
namespace Go.Proofs.Ytabemhjbpnnlpaa
/-- The last value of a name, -1 for none. -/
def lof (xs : List St) (n : Int) : Int := xs.foldl (fun v s => if s.1 = n then s.2 else v) (-1)
theorem lof_take (xs : List St) (n : Int) (k : Nat) (h : k < xs.length) : lof (xs.take (k + 1)) n = if xs[k].1 = n then xs[k].2 else lof (xs.take k) n := by
  unfold lof
  rw [List.take_succ_eq_append_getElem h, List.foldl_append]
  rfl
theorem foldl_lof {xs : List St} {q : Int} (h : vset q xs = true) (v n : Int) : xs.foldl (fun v s => if s.1 = n then s.2 else v) v = if vof xs n = -1 then v else vof xs n := by
  induction xs generalizing q v with
  | nil => simp [vof]
  | cons x r ih =>
    obtain ⟨a, _, c, _, e⟩ := vset_tail h
    rw [List.foldl_cons, ih e]
    by_cases hx : x.1 = n
    · have e1 : vof (x :: r) n = x.2 := if_pos hx
      rw [e1, vof_low e (by omega), if_pos rfl, if_pos hx, if_neg (by omega)]
    · have e1 : vof (x :: r) n = vof r n := if_neg hx
      rw [e1, if_neg hx]
theorem lof_vof {xs : List St} (h : VS xs = true) (n : Int) : lof xs n = vof xs n := by
  unfold lof
  rw [foldl_lof h]
  split
  · rename_i e; exact e.symm
  · rfl
theorem appS_some {xs cs zs : List St} (h : appS xs cs = some zs) : VS xs = true ∧ cs.length ≤ 16 ∧ cs.all okC = true ∧ zs = buildL (fin (vals xs) cs) 10 := by
  unfold appS at h
  split at h
  · rename_i hh
    injection h with h
    exact ⟨hh.1, hh.2.1, hh.2.2, h.symm⟩
  · cases h
theorem appS_bd {xs cs : List St} (hx : VS xs = true) (hc : cs.all okC = true) (n : Nat) : -1 ≤ fin (vals xs) cs n ∧ fin (vals xs) cs n ≤ 20 := fin_bd (vals_bd hx) hc n
theorem appS_valid {xs cs zs : List St} (h : appS xs cs = some zs) : VS zs = true := by
  obtain ⟨hx, _, hc, rfl⟩ := appS_some h
  exact VS_build _ 10 (by omega) fun n _ => (appS_bd hx hc n).2
theorem appS_vof {xs cs zs : List St} (h : appS xs cs = some zs) (n : Nat) (hn : n < 10) : vof zs n = fin (vals xs) cs n := by
  obtain ⟨hx, _, hc, rfl⟩ := appS_some h
  have := (appS_bd hx hc n).1
  rw [vof_buildL]
  split
  · rfl
  · rename_i hh
    have : ¬ 0 ≤ fin (vals xs) cs n := fun h0 => hh ⟨hn, h0⟩
    omega
/-- The last change counts. -/
theorem appS_last {xs cs zs : List St} (h : appS xs cs = some zs) (k : Nat) (hk : k < cs.length) (hl : k + 1 = cs.length) : lof zs cs[k].1 = cs[k].2 := by
  rw [lof_vof (appS_valid h)]
  have hc := (appS_some h).2.2.1
  have ho := List.all_eq_true.1 hc _ (List.getElem_mem hk)
  simp only [okC, Bool.and_eq_true, decide_eq_true_eq] at ho
  obtain ⟨m, hm⟩ := Int.eq_ofNat_of_zero_le ho.1.1
  rw [hm, appS_vof h m (by omega)]
  have e := fin_take (vals xs) cs k hk
  rw [hl, List.take_length] at e
  rw [e, hm, Int.toNat_natCast]
  exact if_pos rfl
theorem appS_none {xs : List St} (h : VS xs = true) : appS xs [] = some xs := by
  have : appS xs [] = some (buildL (fin (vals xs) []) 10) := if_pos ⟨h, by simp, rfl⟩
  rw [this]
  exact congrArg some (build_vals h)
theorem fin_congr {f g : Nat → Int} (cs : List St) (n : Nat) (h : f n = g n) : fin f cs n = fin g cs n := by
  induction cs generalizing f g with
  | nil => exact h
  | cons c r ih =>
    refine ih (f := upd f c.1.toNat c.2) (g := upd g c.1.toNat c.2) ?_
    unfold upd
    split
    · rfl
    · exact h
theorem appS_parts {xs cs zs : List St} (h : appS xs cs = some zs) (k : Nat) : ∃ ps, appS xs (cs.take k) = some ps ∧ appS ps (cs.drop k) = some zs := by
  obtain ⟨hx, hl, hc, rfl⟩ := appS_some h
  have hall := hc
  rw [← List.take_append_drop k cs, List.all_append, Bool.and_eq_true] at hall
  have h1 : appS xs (cs.take k) = some (buildL (fin (vals xs) (cs.take k)) 10) := if_pos ⟨hx, Nat.le_trans (by rw [List.length_take]; omega) hl, hall.1⟩
  refine ⟨_, h1, ?_⟩
  have hv := appS_valid h1
  have h2 : appS (buildL (fin (vals xs) (cs.take k)) 10) (cs.drop k) = some (buildL (fin (vals (buildL (fin (vals xs) (cs.take k)) 10)) (cs.drop k)) 10) := if_pos ⟨hv, Nat.le_trans (by rw [List.length_drop]; omega) hl, hall.2⟩
  rw [h2]
  refine congrArg some (buildL_congr 10 fun n hn => ?_)
  have e : fin (vals xs) cs = fin (fin (vals xs) (cs.take k)) (cs.drop k) := by rw [← fin_append, List.take_append_drop]
  rw [e]
  refine fin_congr _ n ?_
  rw [vals_vof hv, appS_vof h1 n hn]
theorem vset_filter {xs : List St} {q : Int} (h : vset q xs = true) (p : St → Bool) : vset q (xs.filter p) = true := by
  induction xs generalizing q with
  | nil => rfl
  | cons x r ih =>
    obtain ⟨a, b, c, d, e⟩ := vset_tail h
    rw [List.filter_cons]
    split
    · simp only [vset, Bool.and_eq_true, decide_eq_true_eq]
      exact ⟨⟨⟨a, b⟩, c, d⟩, ih e⟩
    · exact vset_low (ih e) (by omega)
theorem vof_filter (xs : List St) (p : Int → Bool) (n : Int) : vof (xs.filter fun s => p s.1) n = if p n = true then vof xs n else -1 := by
  induction xs with
  | nil => simp [vof]
  | cons x r ih =>
    rw [List.filter_cons]
    by_cases hp : p x.1 = true
    · rw [if_pos hp]
      by_cases hx : x.1 = n
      · have e1 : vof (x :: r) n = x.2 := if_pos hx
        have e2 : vof (x :: r.filter fun s => p s.1) n = x.2 := if_pos hx
        rw [e1, e2, if_pos (by rw [← hx]; exact hp)]
      · have e1 : vof (x :: r) n = vof r n := if_neg hx
        have e2 : vof (x :: r.filter fun s => p s.1) n = vof (r.filter fun s => p s.1) n := if_neg hx
        rw [e1, e2, ih]
    · rw [if_neg hp, ih]
      by_cases hn : p n = true
      · rw [if_pos hn, if_pos hn]
        have e1 : vof (x :: r) n = vof r n := if_neg (fun e => hp (by rw [e]; exact hn))
        rw [e1]
      · rw [if_neg hn, if_neg hn]
/-- What no change names stays. -/
theorem appS_other {xs cs zs : List St} (h : appS xs cs = some zs) : (xs.filter fun s => !(decide (s.1 ∈ cs.map (·.1)))) = zs.filter fun s => !(decide (s.1 ∈ cs.map (·.1))) := by
  obtain ⟨hx, _, hc, _⟩ := appS_some h
  have hz := appS_valid h
  refine vset_ext (vset_filter hx _) (vset_filter hz _) fun n => ?_
  rw [vof_filter xs (fun m => !(decide (m ∈ cs.map (·.1)))) n, vof_filter zs (fun m => !(decide (m ∈ cs.map (·.1)))) n]
  by_cases hp : n ∈ cs.map (·.1)
  · simp [hp]
  · rw [if_pos (by simpa using hp), if_pos (by simpa using hp)]
    by_cases hn : 0 ≤ n ∧ n ≤ 9
    · obtain ⟨m, rfl⟩ := Int.eq_ofNat_of_zero_le hn.1
      rw [appS_vof h m (by omega), ← vals_vof hx]
      have keep : ∀ (cs : List St) (f : Nat → Int), cs.all okC = true → ¬ (m : Int) ∈ cs.map (·.1) → f m = fin f cs m := by
        intro cs
        induction cs with
        | nil => intro f _ _; rfl
        | cons c r ih =>
          intro f hc hp
          simp only [List.all_cons, Bool.and_eq_true] at hc
          have ho := hc.1
          simp only [okC, Bool.and_eq_true, decide_eq_true_eq] at ho
          simp only [List.map_cons, List.mem_cons, not_or] at hp
          have := ih (upd f c.1.toNat c.2) hc.2 hp.2
          rw [show fin f (c :: r) m = fin (upd f c.1.toNat c.2) r m from rfl, ← this]
          exact (if_neg (by omega)).symm
      exact keep cs _ hc hp
    · have out : ∀ (ys : List St), VS ys = true → vof ys n = -1 := fun ys hy => vof_none fun ⟨s, hs, e⟩ => by
        have := VS_mem hy s hs
        omega
      rw [out xs hx, out zs hz]
end Go.Proofs.Ytabemhjbpnnlpaa
