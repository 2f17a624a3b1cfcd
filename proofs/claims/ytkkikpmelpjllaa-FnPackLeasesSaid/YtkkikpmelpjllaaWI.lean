/- Contracts of the small functions over numbers: ranges, copies, equality, sums; of slices' functions over []int. -/
import Derived.Test.YtkkikpmelpjllaaW1
import Derived.Test.YtkkikpmelpjllaaMem2
import Derived.BigGuardPart
import Derived.Deep.QuietTactic
import Derived.BigQuiet
namespace Go.Proofs.Ytkkikpmelpjllaa
open Go.RowKit
theorem eltI : Elt Try.prog 37 3 (.int .i64 0) 1 8 := ⟨Try.underlying37, by kernel_rfl, rfl, by decide⟩
theorem SlI.at1 {w : World} {ad : Addr} {c : Nat} {xs : List Int} (h : SlI w (some ad) c xs) {i : Nat} (hi : i < xs.length) : w.cell? (ad.add i) = some (.int .i64 xs[i]) := by
  obtain ⟨ad', e, _, hc⟩ := h.at hi
  injection e with e; subst e; exact hc
theorem ci_take (xs : List Int) (m : Nat) : (ci xs).take (m * 1) = ci (xs.take m) := by simp [ci, List.map_take]
theorem ci_drop (xs : List Int) (m : Nat) : (ci xs).drop (m * 1) = ci (xs.drop m) := by simp [ci, List.map_drop]
theorem ci_set (xs : List Int) (i : Nat) (v : Int) : (ci xs).set i (.int .i64 v) = ci (xs.set i v) := by simp [ci, List.map_set]
theorem SlI.take {w : World} {A : Option Addr} {c : Nat} {xs : List Int} (h : SlI w A c xs) {m : Nat} (hm : m ≤ xs.length) : SlI w A c (xs.take m) := by
  have := Sl.take h hm
  rw [ci_take] at this
  unfold SlI
  rwa [List.length_take, Nat.min_eq_left hm]
/-- New numbers, that may be written. -/
def RwI (w : World) (B : Nat) (A : Option Addr) (c : Nat) (xs : List Int) : Prop := Rw w B 3 1 A xs.length c (ci xs)
theorem RwI.sl {w : World} {B : Nat} {A : Option Addr} {c : Nat} {xs : List Int} (h : RwI w B A c xs) : SlI w A c xs := h.1
theorem RwI.ext {w w' : World} {B : Nat} {A : Option Addr} {c : Nat} {xs : List Int} (h : RwI w B A c xs) (hb : Below w.heap.size w w') : RwI w' B A c xs := Rw.ext h hb
theorem RwI.low {w : World} {B B' : Nat} {A : Option Addr} {c : Nat} {xs : List Int} (h : RwI w B A c xs) (hB : B' ≤ B) : RwI w B' A c xs := Rw.low h hB
theorem rwI_nil (w : World) (B : Nat) (A : Option Addr) (c : Nat) (hc : c ≤ maxLen) : RwI w B A c [] := rw_nil w B _ 1 A c hc
theorem rwI_of_own {w : World} {base n : Nat} {v : Value} {xs : List Value} {zs : List Int} (h : w.ownsRow base 3 1 v n xs) (hx : xs = ci zs) (hn : n = zs.length) :
    ∃ A c, v = .slice A zs.length c ∧ RwI w base A c zs := by
  subst hx hn
  exact Rw.of_own h
theorem slI_of_own {w : World} {base n : Nat} {e : TypeId} {v : Value} {xs : List Value} {zs : List Int} (h : w.ownsRow base e 1 v n xs) (hx : xs = ci zs) (hn : n = zs.length) :
    ∃ A c, v = .slice A zs.length c ∧ SlI w A c zs ∧ (∀ ad, A = some ad → base ≤ ad.block) := by
  subst hx hn
  exact Sl.of_own h
/-- Numbers handed back in new memory. -/
def NewI (zs : List Int) (w : World) (r : Ending) (w' : World) : Prop :=
  ∃ A c, r = .returned (.slice A zs.length c) ∧ RwI w' w.heap.size A c zs ∧ Below w.heap.size w w'
/-- All numbers are in a range. -/
def allL (xs : List Int) (lo hi : Int) : Bool := xs.all fun n => inB n lo hi
theorem allL_drop (xs : List Int) (lo hi : Int) (k : Nat) (h : k < xs.length) : allL (xs.drop k) lo hi = (inB xs[k] lo hi && allL (xs.drop (k + 1)) lo hi) := by
  rw [List.drop_eq_getElem_cons h]; rfl
theorem allL_yes {xs : List Int} {lo hi : Int} {k : Nat} (h : k < xs.length) (h1 : inB xs[k] lo hi = true) : allL (xs.drop k) lo hi = allL (xs.drop (k + 1)) lo hi := by rw [allL_drop xs lo hi k h, h1]; rfl
theorem allL_no {xs : List Int} {lo hi : Int} {k : Nat} (h : k < xs.length) (h1 : inB xs[k] lo hi = false) : allL (xs.drop k) lo hi = false := by rw [allL_drop xs lo hi k h, h1]; rfl
theorem allL_done (xs : List Int) (lo hi : Int) : allL (xs.drop xs.length) lo hi = true := by simp [allL]
theorem allL_at {xs : List Int} {lo hi : Int} (h : allL xs lo hi = true) {k : Nat} (hk : k < xs.length) : lo ≤ xs[k] ∧ xs[k] ≤ hi := by
  unfold allL at h
  rw [List.all_eq_true] at h
  exact inB_iff.1 (h _ (List.getElem_mem hk))
theorem allL_mem {xs : List Int} {lo hi : Int} (h : allL xs lo hi = true) {v : Int} (hv : v ∈ xs) : lo ≤ v ∧ v ≤ hi := by
  unfold allL at h
  rw [List.all_eq_true] at h
  exact inB_iff.1 (h _ hv)
theorem clipI_any (A : Option Addr) (n c : Nat) (w : World) (h : n ≤ c) (hc : c ≤ maxLen) :
    Calls Try.prog 40 #[.slice A n c] w fun e w' => e = .returned (.slice A n n) ∧ w = w' := by
  unfold maxLen at hc
  go_enter Try.func40, Try.ntmps40
  go_wp2
  go_ret
  exact ⟨rfl, rfl⟩
/-- Numbers are the same. -/
def sameI (xs ys : List Int) : Bool := decide (xs = ys)
theorem sameI_self (xs : List Int) : sameI xs xs = true := decide_eq_true rfl
theorem sameI_len {xs ys : List Int} (h : xs.length ≠ ys.length) : sameI xs ys = false := decide_eq_false fun e => h (by rw [e])
theorem sameI_at {xs ys : List Int} {k : Nat} (h : k < xs.length) (h' : k < ys.length) (hn : xs[k] ≠ ys[k]) : sameI xs ys = false := decide_eq_false fun e => by subst e; exact hn rfl
theorem sameI_all {xs ys : List Int} (h : xs.length = ys.length) (ht : xs.take xs.length = ys.take xs.length) : sameI xs ys = true := decide_eq_true (by
  rw [List.take_length] at ht; rw [ht, h, List.take_length])
theorem takeI_next {xs ys : List Int} {k : Nat} (h : k < xs.length) (h' : k < ys.length) (ht : xs.take k = ys.take k) (he : xs[k] = ys[k]) : xs.take (k + 1) = ys.take (k + 1) := by
  rw [List.take_succ_eq_append_getElem h, List.take_succ_eq_append_getElem h', ht, he]
theorem SlI.drop {w : World} {A : Option Addr} {c : Nat} {xs : List Int} (h : SlI w A c xs) {m : Nat} (hm : m ≤ xs.length) : SlI w (if c = m then A else A.map (·.add (m * 1))) (c - m) (xs.drop m) := by
  have := Sl.drop h hm
  rw [ci_drop] at this
  unfold SlI
  rwa [List.length_drop]
end Go.Proofs.Ytkkikpmelpjllaa
