/- What the laws on shares lean on, in plain Lean. -/
import Derived.Test.YtjgijfmnplcdkaaPGa
namespace Go.Proofs.Ytjgijfmnplcdkaa
theorem zero_valid {t : Int} {xs ys : List Int} (h : VSh t xs ys = true) : VSh t xs [0, 0, 0, 0, 0] = true := by
  have V := valid_iff.1 h
  refine valid_iff.2 ⟨V.t0, V.t1, V.lx, rfl, V.mx, fun i hi => ?_, V.t0⟩
  have e : at0 [0, 0, 0, 0, 0] i = 0 := by
    rcases i with _ | _ | _ | _ | _ | i <;> first | rfl | omega
  rw [e]
  exact ⟨Int.le_refl _, (V.mx i hi).1⟩
/-- TakeShare of valid shares. -/
theorem AD_take {t : Int} {xs ys : List Int} {o : Nat} (h : VSh t xs ys = true) (ho : o < 5) : AD t xs ys (o : Int) (-1) = if at0 ys o = 0 then none else some (chg ys o (-1)) := by
  by_cases h0 : at0 ys o = 0
  · rw [if_pos h0]
    refine AD_no3 ?_
    cases hc : VSh t xs (chg ys o (-1)) with
    | false => rfl
    | true => exact absurd h0 ((take_valid h ho).1 hc)
  · rw [if_neg h0]
    exact AD_ok h (inB_true (by omega) (by omega)) ((take_valid h ho).2 h0)
/-- GiveShare of valid shares. -/
theorem AD_give {t : Int} {xs ys : List Int} {o : Nat} (h : VSh t xs ys = true) (ho : o < 5) : AD t xs ys (o : Int) 1 = if at0 ys o < at0 xs o ∧ ys.sum < t then some (chg ys o 1) else none := by
  by_cases h0 : at0 ys o < at0 xs o ∧ ys.sum < t
  · rw [if_pos h0]
    exact AD_ok h (inB_true (by omega) (by omega)) ((give_valid h ho).2 h0)
  · rw [if_neg h0]
    refine AD_no3 ?_
    cases hc : VSh t xs (chg ys o 1) with
    | false => rfl
    | true => exact absurd ((give_valid h ho).1 hc) h0
theorem AD_some {t : Int} {xs ys zs : List Int} {oi v : Int} (h : AD t xs ys oi v = some zs) : ∃ o : Nat, oi = (o : Int) ∧ o < 5 ∧ VSh t xs ys = true ∧ zs = chg ys o v ∧ VSh t xs zs = true := by
  unfold AD at h
  split at h
  · rename_i h'
    obtain ⟨h1, h2, h3⟩ := h'
    have := inB_iff.1 h2
    injection h with h
    subst h
    exact ⟨oi.toNat, by omega, by omega, h1, rfl, h3⟩
  · cases h
theorem chg_back {ys : List Int} {o : Nat} (ho : o < ys.length) (u v : Int) (huv : u + v = 0) : chg (chg ys o u) o v = ys := by
  unfold chg
  rw [at0_set _ ho, if_pos rfl, List.set_set, show at0 ys o + u + v = at0 ys o from by omega, at0_of ho, List.set_getElem_self]
theorem AD_give_back {t : Int} {xs ys zs : List Int} {oi : Int} (h : AD t xs ys oi 1 = some zs) : AD t xs zs oi (-1) = some ys ∧ VSh t xs zs = true ∧ VSh t xs ys = true ∧ zs.sum = ys.sum + 1 := by
  obtain ⟨o, rfl, ho, hv, rfl, hz⟩ := AD_some h
  have V := valid_iff.1 hv
  have hl : o < ys.length := by rw [V.ly]; exact ho
  have hb := chg_back hl 1 (-1) (by omega)
  refine ⟨?_, hz, hv, ?_⟩
  · have := AD_ok (v := -1) hz (inB_true (lo := 0) (hi := 4) (n := (o : Int)) (by omega) (by omega)) (by rw [hb]; exact hv)
    rwa [hb] at this
  · unfold chg
    rw [sum_set V.ly ho]; omega
theorem AD_take_back {t : Int} {xs ys zs : List Int} {oi : Int} (h : AD t xs ys oi (-1) = some zs) : AD t xs zs oi 1 = some ys ∧ VSh t xs zs = true ∧ VSh t xs ys = true := by
  obtain ⟨o, rfl, ho, hv, rfl, hz⟩ := AD_some h
  have V := valid_iff.1 hv
  have hl : o < ys.length := by rw [V.ly]; exact ho
  have hb := chg_back hl (-1) 1 (by omega)
  refine ⟨?_, hz, hv⟩
  have := AD_ok (v := 1) hz (inB_true (lo := 0) (hi := 4) (n := (o : Int)) (by omega) (by omega)) (by rw [hb]; exact hv)
  rwa [hb] at this
theorem allL_one (o : Int) : allL [o] 0 4 = inB o 0 4 := by simp [allL]
/-- Who asks alone is next, just when a give is possible. -/
theorem NO_one (t : Int) (xs ys : List Int) (o : Int) : (NO t xs ys [o] == 0) = (AD t xs ys o 1).isSome := by
  cases h1 : VSh t xs ys with
  | false =>
    have e : NO t xs ys [o] = -1 := if_neg (by simp [askB, h1])
    rw [e, AD_no1 h1]; rfl
  | true =>
    cases h2 : inB o 0 4 with
    | false =>
      have e : NO t xs ys [o] = -1 := if_neg (by simp [askB, h1, allL_one, h2])
      rw [e, AD_no2 h2]; rfl
    | true =>
      have e : NO t xs ys [o] = NX t xs ys [o] := if_pos (by simp [askB, h1, allL_one, h2])
      have hr := inB_iff.1 h2
      obtain ⟨i, rfl⟩ : ∃ i : Nat, o = (i : Int) := ⟨o.toNat, by omega⟩
      have hsum := (valid_iff.1 h1).sm
      rw [e, AD_give h1 (by omega)]
      unfold NX
      by_cases h3 : ys.sum = t
      · rw [if_pos h3, if_neg (by omega)]; rfl
      · rw [if_neg h3]
        show (nstep xs ys [(i : Int)] (-1) 0 == 0) = _
        unfold nstep
        have e0 : at0 [(i : Int)] 0 = (i : Int) := rfl
        rw [e0, Int.toNat_natCast]
        by_cases h4 : at0 ys i < at0 xs i
        · rw [if_pos ⟨h4, .inl (by omega)⟩, if_pos ⟨h4, by omega⟩]; rfl
        · rw [if_neg (fun h => h4 h.1), if_neg (fun h => h4 h.1)]; rfl
/-- What NextOwner says of a place. -/
theorem NO_at {t : Int} {xs ys asks : List Int} {n : Nat} (h : NO t xs ys asks = (n : Int)) : VSh t xs ys = true ∧ asks.length ≤ 12 ∧ allL asks 0 4 = true ∧ Gets t xs ys asks n ∧
    ∀ i, i < asks.length → may xs ys asks i → hasK ys asks i = hasK ys asks n → n ≤ i := by
  unfold NO at h
  split at h
  · rename_i ha
    simp only [askB, Bool.and_eq_true, decide_eq_true_eq] at ha
    obtain ⟨h1, h2, h3⟩ := ha
    rcases NX_cases t xs ys asks with e | ⟨j, hj⟩
    · omega
    · have e : j = n := by have := hj.nx; omega
      subst e
      refine ⟨h1, h2, h3, hj, fun i hi hm he => ?_⟩
      have e2 : nxt xs ys asks asks.length = (j : Int) := by rw [← h]; exact (if_neg hj.sum).symm
      exact ((best_nxt xs ys asks asks.length).some j e2).2.2 i hi hm |>.2 he
  · omega
/-- If nobody is next nothing can be given. -/
theorem NO_none {t : Int} {xs ys asks : List Int} (h : NO t xs ys asks < 0) (hl : asks.length ≤ 12) (ha : allL asks 0 4 = true) {i : Nat} (hi : i < asks.length) : AD t xs ys (at0 asks i) 1 = none := by
  cases h1 : VSh t xs ys with
  | false => exact AD_no1 h1
  | true =>
    have e : NO t xs ys asks = NX t xs ys asks := if_pos (by simp [askB, h1, ha, hl])
    rw [e] at h
    have hr := allL_at0 ha hi
    obtain ⟨o, ho⟩ : ∃ o : Nat, at0 asks i = (o : Int) := ⟨(at0 asks i).toNat, by omega⟩
    rw [ho] at hr ⊢
    rw [AD_give h1 (by omega)]
    refine if_neg (fun h2 => ?_)
    have e2 : NX t xs ys asks = nxt xs ys asks asks.length := if_neg (by omega)
    rw [e2] at h
    refine ((best_nxt xs ys asks asks.length).none h).2 i hi ?_
    unfold may
    rw [ho, Int.toNat_natCast]
    exact h2.1
end Go.Proofs.Ytjgijfmnplcdkaa
