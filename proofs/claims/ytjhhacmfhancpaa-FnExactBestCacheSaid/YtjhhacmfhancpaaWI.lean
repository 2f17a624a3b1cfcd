/- Contracts of the small functions over numbers: ranges, copies, equality, sums; of slices' functions over []int. -/
import Derived.Test.YtjhhacmfhancpaaW1
import Derived.Test.YtjhhacmfhancpaaMem2
import Derived.BigGuardPart
import Derived.Deep.QuietTactic
import Derived.BigQuiet
namespace Go.Proofs.Ytjhhacmfhancpaa
open Go.RowKit
theorem eltI : Elt Try.prog 22 3 (.int .i64 0) 1 8 := ⟨Try.underlying22, by kernel_rfl, rfl, by decide⟩
theorem SlI.at1 {w : World} {ad : Addr} {c : Nat} {xs : List Int} (h : SlI w (some ad) c xs) {i : Nat} (hi : i < xs.length) : w.cell? (ad.add i) = some (.int .i64 xs[i]) := by
  obtain ⟨ad', e, _, hc⟩ := h.at hi
  injection e with e; subst e; exact hc
theorem ci_take (xs : List Int) (m : Nat) : (ci xs).take (m * 1) = ci (xs.take m) := by simp [ci, List.map_take]
theorem ci_drop (xs : List Int) (m : Nat) : (ci xs).drop (m * 1) = ci (xs.drop m) := by simp [ci, List.map_drop]
theorem ci_set (xs : List Int) (i : Nat) (v : Int) : (ci xs).set i (.int .i64 v) = ci (xs.set i v) := by simp [ci, List.map_set]
theorem SlI.take {w : World} {A : Option Addr} {c : Nat} {xs : List Int} (h : SlI w A c xs) {m : Nat} (hm : m ≤ xs.length) : SlI w A c (xs.take m) := by
  have := Sl.take h hm
  rw [ci_take] at this
  unfold SlI
  rwa [List.length_take, Nat.min_eq_left hm]
/-- New numbers, that may be written. -/
def RwI (w : World) (B : Nat) (A : Option Addr) (c : Nat) (xs : List Int) : Prop := Rw w B 3 1 A xs.length c (ci xs)
theorem RwI.sl {w : World} {B : Nat} {A : Option Addr} {c : Nat} {xs : List Int} (h : RwI w B A c xs) : SlI w A c xs := h.1
theorem RwI.ext {w w' : World} {B : Nat} {A : Option Addr} {c : Nat} {xs : List Int} (h : RwI w B A c xs) (hb : Below w.heap.size w w') : RwI w' B A c xs := Rw.ext h hb
theorem RwI.low {w : World} {B B' : Nat} {A : Option Addr} {c : Nat} {xs : List Int} (h : RwI w B A c xs) (hB : B' ≤ B) : RwI w B' A c xs := Rw.low h hB
theorem rwI_nil (w : World) (B : Nat) (A : Option Addr) (c : Nat) (hc : c ≤ maxLen) : RwI w B A c [] := rw_nil w B _ 1 A c hc
theorem rwI_of_own {w : World} {base n : Nat} {v : Value} {xs : List Value} {zs : List Int} (h : w.ownsRow base 3 1 v n xs) (hx : xs = ci zs) (hn : n = zs.length) :
    ∃ A c, v = .slice A zs.length c ∧ RwI w base A c zs := by
  subst hx hn
  exact Rw.of_own h
theorem slI_of_own {w : World} {base n : Nat} {e : TypeId} {v : Value} {xs : List Value} {zs : List Int} (h : w.ownsRow base e 1 v n xs) (hx : xs = ci zs) (hn : n = zs.length) :
    ∃ A c, v = .slice A zs.length c ∧ SlI w A c zs ∧ (∀ ad, A = some ad → base ≤ ad.block) := by
  subst hx hn
  exact Sl.of_own h
/-- Numbers handed back in new memory. -/
def NewI (zs : List Int) (w : World) (r : Ending) (w' : World) : Prop :=
  ∃ A c, r = .returned (.slice A zs.length c) ∧ RwI w' w.heap.size A c zs ∧ Below w.heap.size w w'
/-- All numbers are in a range. -/
def allL (xs : List Int) (lo hi : Int) : Bool := xs.all fun n => inB n lo hi
theorem allL_drop (xs : List Int) (lo hi : Int) (k : Nat) (h : k < xs.length) : allL (xs.drop k) lo hi = (inB xs[k] lo hi && allL (xs.drop (k + 1)) lo hi) := by
  rw [List.drop_eq_getElem_cons h]; rfl
theorem allL_yes {xs : List Int} {lo hi : Int} {k : Nat} (h : k < xs.length) (h1 : inB xs[k] lo hi = true) : allL (xs.drop k) lo hi = allL (xs.drop (k + 1)) lo hi := by rw [allL_drop xs lo hi k h, h1]; rfl
theorem allL_no {xs : List Int} {lo hi : Int} {k : Nat} (h : k < xs.length) (h1 : inB xs[k] lo hi = false) : allL (xs.drop k) lo hi = false := by rw [allL_drop xs lo hi k h, h1]; rfl
theorem allL_done (xs : List Int) (lo hi : Int) : allL (xs.drop xs.length) lo hi = true := by simp [allL]
theorem allL_at {xs : List Int} {lo hi : Int} (h : allL xs lo hi = true) {k : Nat} (hk : k < xs.length) : lo ≤ xs[k] ∧ xs[k] ≤ hi := by
  unfold allL at h
  rw [List.all_eq_true] at h
  exact inB_iff.1 (h _ (List.getElem_mem hk))
theorem allL_mem {xs : List Int} {lo hi : Int} (h : allL xs lo hi = true) {v : Int} (hv : v ∈ xs) : lo ≤ v ∧ v ≤ hi := by
  unfold allL at h
  rw [List.all_eq_true] at h
  exact inB_iff.1 (h _ hv)
set_option maxHeartbeats 400000 in
theorem al1_any (n lo hi : Int) (p q : Nat) (w : World) (c0 : w.cell? ⟨p, 0, none⟩ = some (.int .i64 lo)) (c1 : w.cell? ⟨q, 0, none⟩ = some (.int .i64 hi)) :
    Calls Try.prog 52 #[.int .i64 n, .pointer (some ⟨p, 0, none⟩), .pointer (some ⟨q, 0, none⟩)] w fun e w' => e = .returned (.bool (!inB n lo hi)) ∧ w = w' := by
  go_enter Try.func52, Try.ntmps52
  go_wp2_with fail
  refine (in_any _ _ _ _).mono ?_
  rintro e w' ⟨rfl, rfl⟩
  go_wp2
  go_ret
  exact ⟨rfl, rfl⟩
/-- What IndexFunc leaves. -/
def IdxI (xs : List Int) (lo hi : Int) (w : World) (e : Ending) (w' : World) : Prop :=
  ∃ r : Int, e = .returned (.int .i64 r) ∧ decide (0 ≤ r) = !(allL xs lo hi) ∧ w = w'
set_option maxHeartbeats 400000 in
theorem ixI_any (A : Option Addr) (c : Nat) (xs : List Int) (lo hi : Int) (p q : Nat) (w : World) (h : SlI w A c xs) (c0 : w.cell? ⟨p, 0, none⟩ = some (.int .i64 lo)) (c1 : w.cell? ⟨q, 0, none⟩ = some (.int .i64 hi)) :
    Calls Try.prog 53 #[.slice A xs.length c, .func (.func 52) #[] #[.pointer (some ⟨p, 0, none⟩), .pointer (some ⟨q, 0, none⟩)]] w (IdxI xs lo hi w) := by
  have hmax := h.max
  have hcap := h.cap
  unfold maxLen at hmax
  go_enter Try.func53, Try.ntmps53
  go_wp2
  go_loop [5, 8] (fun _ i => ∃ (k : Nat), k ≤ xs.length ∧ i = .int .i64 k ∧ Hid (allL xs lo hi = allL (xs.drop k) lo hi)) (fun _ i => xs.length - (intOf i).toNat)
  case atStart => exact ⟨0, Nat.zero_le _, rfl, rfl⟩
  case round =>
    obtain ⟨k, hk, rfl, HV⟩ := hrel
    by_cases hlt : k < xs.length
    · obtain ⟨ad, rfl, hbl, hc0⟩ := h.at hlt
      cases h1 : inB xs[k] lo hi with
      | true =>
        have HV' := hd (HV.out.trans (allL_yes hlt h1))
        go_wp2_with (go_at_call 52; refine (al1_any _ _ _ _ _ _ c0 c1).mono ?_; rintro e w' ⟨rfl, rfl⟩)
        go_round
        case rel => exact ⟨k + 1, by omega, by go_num, HV'⟩
        case measure => simp [intOf]; omega
      | false =>
        have HV' := hd (HV.out.trans (allL_no hlt h1))
        go_wp2_with (go_at_call 52; refine (al1_any _ _ _ _ _ _ c0 c1).mono ?_; rintro e w' ⟨rfl, rfl⟩)
        go_ret
        exact ⟨_, rfl, by rw [HV'.out]; exact decide_eq_true (by omega), rfl⟩
    · obtain rfl : k = xs.length := by omega
      have HV' := hd (HV.out.trans (allL_done xs lo hi))
      go_wp2
      go_ret
      exact ⟨_, rfl, by rw [HV'.out]; rfl, rfl⟩
set_option maxHeartbeats 400000 in
theorem cfI_any (A : Option Addr) (c : Nat) (xs : List Int) (lo hi : Int) (p q : Nat) (w : World) (h : SlI w A c xs) (c0 : w.cell? ⟨p, 0, none⟩ = some (.int .i64 lo)) (c1 : w.cell? ⟨q, 0, none⟩ = some (.int .i64 hi)) :
    Calls Try.prog 51 #[.slice A xs.length c, .func (.func 52) #[] #[.pointer (some ⟨p, 0, none⟩), .pointer (some ⟨q, 0, none⟩)]] w fun e w' => e = .returned (.bool (!(allL xs lo hi))) ∧ w = w' := by
  go_enter Try.func51, Try.ntmps51
  go_wp2_with fail
  refine (ixI_any A c xs lo hi p q w h c0 c1).mono ?_
  rintro e w' ⟨r, rfl, hr, rfl⟩
  have HR := hd hr
  clear hr
  go_wp2
  go_ret
  exact ⟨by rw [← HR.out]; rfl, rfl⟩
set_option maxHeartbeats 400000 in
theorem allIn_any (A : Option Addr) (c : Nat) (xs : List Int) (lo hi : Int) (w : World) (h : SlI w A c xs) :
    Calls Try.prog 45 #[.slice A xs.length c, .int .i64 lo, .int .i64 hi] w fun e w' => e = .returned (.bool (allL xs lo hi)) ∧ Below w.heap.size w w' := by
  go_enter Try.func45, Try.ntmps45
  go_wp2_with fail
  refine (cfI_any A c xs lo hi _ _ _ (Sl.alloc (Sl.alloc h _) _) (box0 _ _ _ _) (box1 _ _ _ _)).mono ?_
  rintro e w' ⟨rfl, rfl⟩
  go_wp2
  go_ret
  exact ⟨by simp, ext_alloc (ext_alloc (Below.refl _ _) _) _⟩
set_option maxHeartbeats 400000 in
theorem sAllIn_any (A : Option Addr) (c : Nat) (xs : List Int) (lo hi : Int) (w : World) (h : SlI w A c xs) :
    Calls Try.prog 43 #[.slice A xs.length c, .int .i64 lo, .int .i64 hi] w fun e w' => e = .returned (.bool (allL xs lo hi)) ∧ w = w' := by
  have hmax := h.max
  have hcap := h.cap
  unfold maxLen at hmax
  go_enter Try.func43, Try.ntmps43
  go_wp2
  go_loop [7] (fun i => ∃ (k : Nat), k ≤ xs.length ∧ i = .int .i64 k ∧ Hid (allL xs lo hi = allL (xs.drop k) lo hi)) (fun i => xs.length - (intOf i).toNat)
  case atStart => exact ⟨0, Nat.zero_le _, rfl, rfl⟩
  case round =>
    obtain ⟨k, hk, rfl, HV⟩ := hrel
    by_cases hlt : k < xs.length
    · obtain ⟨ad, rfl, hbl, hc0⟩ := h.at hlt
      cases h1 : inB xs[k] lo hi with
      | true =>
        have HV' := hd (HV.out.trans (allL_yes hlt h1))
        go_wp2_with (go_at_call 40; refine (inr_any _ _ _ _).mono ?_; rintro e w' ⟨rfl, rfl⟩)
        go_round
        case rel => exact ⟨k + 1, by omega, by go_num, HV'⟩
        case measure => simp [intOf]; omega
      | false =>
        have HV' := hd (HV.out.trans (allL_no hlt h1))
        go_wp2_with (go_at_call 40; refine (inr_any _ _ _ _).mono ?_; rintro e w' ⟨rfl, rfl⟩)
        go_ret
        exact ⟨by rw [HV'.out]; rfl, rfl⟩
    · obtain rfl : k = xs.length := by omega
      have HV' := hd (HV.out.trans (allL_done xs lo hi))
      go_wp2
      go_ret
      exact ⟨by rw [HV'.out]; rfl, rfl⟩
set_option maxHeartbeats 400000 in
theorem copyInts_any (A : Option Addr) (c : Nat) (xs : List Int) (w : World) (h : SlI w A c xs) (hl : xs.length ≤ 1048576) :
    Calls Try.prog 48 #[.slice A xs.length c] w (NewI xs w) := by
  go_enter Try.func48, Try.ntmps48
  have ho := hd (own_made w 3 1 [] 0 rfl (by decide))
  have hs := hd (Sl.alloc h (.cells #[] 3))
  go_wp2_with (at_builtin; refine wpList_apps eltI _ _ ho.out hs.out (ci_one _) (by omega) (by omega) (by simp) (by rfl) (by rfl) (by rfl) (by rfl) ?_; intro v' w2 hown2 hg2)
  go_ret
  obtain ⟨A2, c2, rfl, hr⟩ := rwI_of_own hown2 (by simp : [] ++ ci xs = ci xs) (by omega)
  exact ⟨A2, c2, rfl, hr, (ext_alloc (Below.refl _ _) _).grown hg2 (by simp) (by intro k hk; simp [Value.ownBlock] at hk; omega)⟩
/-- Numbers handed back in a row of their own. -/
def OwnI (zs : List Int) (w : World) (r : Ending) (w' : World) : Prop :=
  ∃ v, r = .returned v ∧ w'.ownsRow w.heap.size 3 1 v zs.length (ci zs) ∧ Below w.heap.size w w'
set_option maxHeartbeats 400000 in
theorem copyIntsO_any (A : Option Addr) (c : Nat) (xs : List Int) (w : World) (h : SlI w A c xs) (hl : xs.length ≤ 1048576) :
    Calls Try.prog 48 #[.slice A xs.length c] w (OwnI xs w) := by
  go_enter Try.func48, Try.ntmps48
  have ho := hd (own_made w 3 1 [] 0 rfl (by decide))
  have hs := hd (Sl.alloc h (.cells #[] 3))
  go_wp2_with (at_builtin; refine wpList_apps eltI _ _ ho.out hs.out (ci_one _) (by omega) (by omega) (by simp) (by rfl) (by rfl) (by rfl) (by rfl) ?_; intro v' w2 hown2 hg2)
  go_ret
  have e1 : (0 : Nat) + xs.length = xs.length := by omega
  rw [e1, List.nil_append] at hown2
  exact ⟨v', rfl, hown2, (ext_alloc (Below.refl _ _) _).grown hg2 (by simp) (by intro k hk; simp [Value.ownBlock] at hk; omega)⟩
set_option maxHeartbeats 400000 in
theorem cloneI0_any (A : Option Addr) (c : Nat) (xs : List Int) (w : World) (h : SlI w A c xs) (hl : xs.length ≤ 1048576) :
    Calls Try.prog 37 #[.slice A xs.length c] w (NewI xs w) := by
  have hn := fun (W : World) (n : Nat) => Lib.run_eql_slice_nil (P := Try.prog) W 22 3 A n c 0 0 Try.underlying22
  cases A with
  | none =>
    have h0 : xs = [] := by
      rcases Nat.eq_zero_or_pos xs.length with h0 | h0
      · exact List.eq_nil_of_length_eq_zero h0
      · obtain ⟨ad, e, _⟩ := Sl.addr h h0
        cases e
    subst h0
    go_enter Try.func37, Try.ntmps37
    go_wp2
    go_ret
    exact ⟨none, 0, rfl, rwI_nil _ _ _ _ (by decide), Below.refl _ _⟩
  | some ad =>
    have ho := hd (own_made w 3 1 [] 0 rfl (by decide))
    have hs := hd (Sl.alloc h (.cells #[] 3))
    go_enter Try.func37, Try.ntmps37
    go_wp2_with (at_builtin; refine wpList_apps eltI _ _ ho.out hs.out (ci_one _) (by omega) (by omega) (by simp) (by rfl) (by rfl) (by rfl) (by rfl) ?_; intro v' w2 hown2 hg2)
    go_ret
    obtain ⟨A2, c2, rfl, hr⟩ := rwI_of_own hown2 (by simp : [] ++ ci xs = ci xs) (by omega)
    exact ⟨A2, c2, rfl, hr, (ext_alloc (Below.refl _ _) _).grown hg2 (by simp) (by intro k hk; simp [Value.ownBlock] at hk; omega)⟩
theorem clipI_any (A : Option Addr) (n c : Nat) (w : World) (h : n ≤ c) (hc : c ≤ maxLen) :
    Calls Try.prog 47 #[.slice A n c] w fun e w' => e = .returned (.slice A n n) ∧ w = w' := by
  unfold maxLen at hc
  go_enter Try.func47, Try.ntmps47
  go_wp2
  go_ret
  exact ⟨rfl, rfl⟩
set_option maxHeartbeats 400000 in
theorem cloneI_any (A : Option Addr) (c : Nat) (xs : List Int) (w : World) (h : SlI w A c xs) (hl : xs.length ≤ 1048576) :
    Calls Try.prog 35 #[.slice A xs.length c] w (NewI xs w) := by
  go_enter Try.func35, Try.ntmps35
  go_wp2_with fail
  refine (cloneI0_any A c xs w h hl).mono ?_
  rintro e w1 ⟨A2, c2, rfl, hr, hb⟩
  have r1 := Sl.cap hr.1
  have r2 := Sl.max hr.1
  have HR := hd (Rw.clip hr)
  clear hr
  go_wp2_with fail
  refine (clipI_any _ _ _ _ r1 r2).mono ?_
  rintro e w' ⟨rfl, rfl⟩
  go_wp2
  go_ret
  exact ⟨A2, xs.length, rfl, HR.out, hb⟩
/-- Numbers are the same. -/
def sameI (xs ys : List Int) : Bool := decide (xs = ys)
theorem sameI_self (xs : List Int) : sameI xs xs = true := decide_eq_true rfl
theorem sameI_len {xs ys : List Int} (h : xs.length ≠ ys.length) : sameI xs ys = false := decide_eq_false fun e => h (by rw [e])
theorem sameI_at {xs ys : List Int} {k : Nat} (h : k < xs.length) (h' : k < ys.length) (hn : xs[k] ≠ ys[k]) : sameI xs ys = false := decide_eq_false fun e => by subst e; exact hn rfl
theorem sameI_all {xs ys : List Int} (h : xs.length = ys.length) (ht : xs.take xs.length = ys.take xs.length) : sameI xs ys = true := decide_eq_true (by
  rw [List.take_length] at ht; rw [ht, h, List.take_length])
theorem takeI_next {xs ys : List Int} {k : Nat} (h : k < xs.length) (h' : k < ys.length) (ht : xs.take k = ys.take k) (he : xs[k] = ys[k]) : xs.take (k + 1) = ys.take (k + 1) := by
  rw [List.take_succ_eq_append_getElem h, List.take_succ_eq_append_getElem h', ht, he]
theorem SlI.drop {w : World} {A : Option Addr} {c : Nat} {xs : List Int} (h : SlI w A c xs) {m : Nat} (hm : m ≤ xs.length) : SlI w (if c = m then A else A.map (·.add (m * 1))) (c - m) (xs.drop m) := by
  have := Sl.drop h hm
  rw [ci_drop] at this
  unfold SlI
  rwa [List.length_drop]
end Go.Proofs.Ytjhhacmfhancpaa
