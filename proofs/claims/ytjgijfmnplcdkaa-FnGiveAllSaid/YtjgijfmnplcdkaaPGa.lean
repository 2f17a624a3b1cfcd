/- GiveAll in plain Lean: no program in sight. -/
import Derived.Test.YtjgijfmnplcdkaaPSh
namespace Go.Proofs.Ytjgijfmnplcdkaa
/-- Those to whom is given, in n rounds at most. -/
def GA (t : Int) (xs : List Int) : Nat → List Int → List Int → List Int
  | 0, _, _ => []
  | n + 1, ys, left => if NX t xs ys left < 0 then [] else
      at0 left (NX t xs ys left).toNat :: GA t xs n (chg ys (at0 left (NX t xs ys left).toNat).toNat 1) (left.eraseIdx (NX t xs ys left).toNat)
/-- GiveAll. -/
def GALL (t : Int) (xs ys asks : List Int) : List Int := if askB t xs ys asks = true then GA t xs asks.length ys asks else []
/-- One who gets something: the place of the ask, j. -/
structure Gets (t : Int) (xs ys left : List Int) (j : Nat) : Prop where
  nx : NX t xs ys left = (j : Int)
  lt : j < left.length
  my : may xs ys left j
  least : ∀ i, i < left.length → may xs ys left i → hasK ys left j ≤ hasK ys left i
  sum : ys.sum ≠ t
theorem NX_cases (t : Int) (xs ys left : List Int) : NX t xs ys left = -1 ∨ ∃ j, Gets t xs ys left j := by
  by_cases hs : ys.sum = t
  · exact .inl (if_pos hs)
  · have e : NX t xs ys left = nxt xs ys left left.length := if_neg hs
    have b := best_nxt xs ys left left.length
    by_cases h : nxt xs ys left left.length < 0
    · exact .inl (e.trans (b.none h).1)
    · obtain ⟨j, hj⟩ : ∃ j : Nat, nxt xs ys left left.length = (j : Int) := ⟨(nxt xs ys left left.length).toNat, by omega⟩
      obtain ⟨h1, h2, h3⟩ := b.some j hj
      exact .inr ⟨j, e.trans hj, h1, h2, fun i hi hm => (h3 i hi hm).1, hs⟩
theorem GA_stop {t : Int} {xs ys left : List Int} (h : NX t xs ys left < 0) (n : Nat) : GA t xs n ys left = [] := by
  cases n with
  | zero => rfl
  | succ n => exact if_pos h
theorem GA_step {t : Int} {xs ys left : List Int} {j : Nat} (h : NX t xs ys left = (j : Int)) (n : Nat) : GA t xs (n + 1) ys left = at0 left j :: GA t xs n (chg ys (at0 left j).toNat 1) (left.eraseIdx j) := by
  show (if NX t xs ys left < 0 then [] else _) = _
  rw [if_neg (by omega), h, Int.toNat_natCast]
theorem allL_erase {xs : List Int} {lo hi : Int} (h : allL xs lo hi = true) (j : Nat) : allL (xs.eraseIdx j) lo hi = true := by
  unfold allL at h ⊢
  rw [List.all_eq_true] at h ⊢
  exact fun v hv => h v (List.eraseIdx_subset hv)
theorem allL_at0 {xs : List Int} {lo hi : Int} (h : allL xs lo hi = true) {j : Nat} (hj : j < xs.length) : lo ≤ at0 xs j ∧ at0 xs j ≤ hi := by
  rw [at0_of hj]; exact allL_at h hj
/-- Who is next gets it. -/
theorem Gets.give {t : Int} {xs ys left : List Int} {j : Nat} (h : Gets t xs ys left j) (hv : VSh t xs ys = true) (hq : allL left 0 4 = true) :
    VSh t xs (chg ys (at0 left j).toNat 1) = true ∧ AD t xs ys (at0 left j) 1 = some (chg ys (at0 left j).toNat 1) := by
  have hr := allL_at0 hq h.lt
  obtain ⟨o, ho⟩ : ∃ o : Nat, at0 left j = (o : Int) := ⟨(at0 left j).toNat, by omega⟩
  have hm : at0 ys (at0 left j).toNat < at0 xs (at0 left j).toNat := h.my
  rw [ho] at hr hm ⊢
  rw [Int.toNat_natCast] at hm ⊢
  have hsum := (valid_iff.1 hv).sm
  have := h.sum
  have hv2 := (give_valid hv (i := o) (by omega)).2 ⟨hm, by omega⟩
  exact ⟨hv2, AD_ok hv (inB_true (by omega) (by omega)) hv2⟩
theorem GA_next {t : Int} {xs zs lf us : List Int} {j : Nat} (h : Gets t xs zs lf j) : us ++ GA t xs lf.length zs lf = (us ++ [at0 lf j]) ++ GA t xs (lf.eraseIdx j).length (chg zs (at0 lf j).toNat 1) (lf.eraseIdx j) := by
  have hl := h.lt
  obtain ⟨n, hn⟩ : ∃ n, lf.length = n + 1 := ⟨lf.length - 1, by omega⟩
  have he : (lf.eraseIdx j).length = n := by rw [List.length_eraseIdx_of_lt hl]; omega
  rw [hn, he, GA_step h.nx, List.append_assoc]
  rfl
theorem at0_append {xs : List Int} {i : Nat} (h : i < xs.length) (ys : List Int) : at0 (xs ++ ys) i = at0 xs i := by
  rw [at0_of h, at0_of (by simp; omega), List.getElem_append_left h]
end Go.Proofs.Ytjgijfmnplcdkaa
