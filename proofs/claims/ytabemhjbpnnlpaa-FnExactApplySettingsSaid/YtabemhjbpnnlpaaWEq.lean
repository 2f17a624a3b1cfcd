/- Contracts: laws.equalSettings, laws.isIn. -/
import Derived.Test.YtabemhjbpnnlpaaWSt
import Derived.Laws.StructEq
namespace Go.Proofs.Ytabemhjbpnnlpaa
open Go.RowKit
theorem uS : Try.prog.underlying 40 = some (.struct (Try.prog.fieldsOf 40)) := by kernel_rfl
theorem sS : Try.prog.stoodInHeld 40 = false := by kernel_rfl
theorem gS : Try.prog.eqGuardType Try.prog.depth 40 = false := by kernel_rfl
theorem neqS (a b c d : Int) (w : World) : (binOp .neq 40 (.agg #[.int .i64 a, .int .i64 b]) (.agg #[.int .i64 c, .int .i64 d])).run Try.prog w = .ok (.bool (!(a == c && b == d))) w := by
  have u3 := Try.underlying3
  have a3 := Try.isAgg3
  have z3 := Try.sizeOf3
  rw [run_neq_struct, show (10000 : Nat) = 9999 + 1 from rfl, run_equalIn_agg w 9999 40 _ _ uS sS]
  simp only [Program.fieldsOf, Try.underlying40]
  go_simp
  by_cases h1 : a = c <;> by_cases h2 : b = d <;> simp [h1, h2]
/-- Two lists are one. -/
def eqL (xs ys : List St) : Bool := decide (xs = ys)
theorem eqL_len {xs ys : List St} (h : ¬ xs.length = ys.length) : eqL xs ys = false := decide_eq_false fun e => h (by rw [e])
theorem eqL_at {xs ys : List St} {k : Nat} (h : k < xs.length) (h' : k < ys.length) (hne : xs[k] ≠ ys[k]) : eqL xs ys = false := decide_eq_false fun e => hne (by subst e; rfl)
theorem eqL_all {xs ys : List St} (hl : xs.length = ys.length) (h : xs.take xs.length = ys.take xs.length) : eqL xs ys = true := decide_eq_true (by rw [List.take_length, hl, List.take_length] at h; exact h)
theorem take_next {xs ys : List St} {k : Nat} (h : k < xs.length) (h' : k < ys.length) (ht : xs.take k = ys.take k) (e : xs[k] = ys[k]) : xs.take (k + 1) = ys.take (k + 1) := by
  rw [List.take_succ_eq_append_getElem h, List.take_succ_eq_append_getElem h', ht, e]
set_option maxHeartbeats 1000000 in
theorem equalSettings_any (A A' : Option Addr) (c c' : Nat) (xs ys : List St) (w : World) (h : SlS w A c xs) (h' : SlS w A' c' ys) :
    Calls Try.prog 24 #[.slice A xs.length c, .slice A' ys.length c'] w fun e w' => e = .returned (.bool (eqL xs ys)) ∧ Below w.heap.size w w' := by
  have hmax := h.max
  have hcap := h.cap
  unfold maxLen at hmax
  by_cases hl : xs.length = ys.length
  · have HL := hd hl
    have hlb : ((xs.length : Int) != (ys.length : Int)) = false := by simp [hl]
    have hlc : ((xs.length : Int) == (ys.length : Int)) = true := by simp [hl]
    have hle : xs.length ≤ ys.length := by omega
    clear hl
    have gS := gS
    go_enter Try.func24, Try.ntmps24
    go_wp2
    go_loopw [5] (fun i wr => ∃ k : Nat, k ≤ xs.length ∧ i = .int .i64 k ∧ Hid (xs.take k = ys.take k) ∧ Below w.heap.size w wr) (fun i _ => xs.length - (intOf i).toNat)
    case atStart => exact ⟨0, by omega, rfl, rfl, Below.refl _ _⟩
    case round =>
      obtain ⟨k, hk, rfl, HT, hb⟩ := hrel
      by_cases hlt : k < xs.length
      · have hlt' : k < ys.length := by omega
        obtain ⟨ad, rfl, hbl, hc0, hc1⟩ := (h.ext hb).at hlt
        obtain ⟨ad', rfl, hbl', hc0', hc1'⟩ := (h'.ext hb).at hlt'
        have hik : (k : Int) < (ys.length : Int) := by omega
        by_cases he : xs[k] = ys[k]
        · have HT' := hd (take_next hlt hlt' HT.out he)
          have hn : ∀ W : World, (binOp .neq 40 (.agg #[.int .i64 xs[k].1, .int .i64 xs[k].2]) (.agg #[.int .i64 ys[k].1, .int .i64 ys[k].2])).run Try.prog W = .ok (.bool false) W := fun W => by rw [neqS, he]; simp
          clear he
          go_wp2_with fail
          go_quiet (fail)
          go_wp2
          go_roundw
          case rel => exact ⟨k + 1, by omega, by go_num, HT', below_drewN hb _⟩
          case measure => simp [intOf]; omega
        · have HE := hd (eqL_at hlt hlt' he)
          have hn : ∀ W : World, (binOp .neq 40 (.agg #[.int .i64 xs[k].1, .int .i64 xs[k].2]) (.agg #[.int .i64 ys[k].1, .int .i64 ys[k].2])).run Try.prog W = .ok (.bool true) W := fun W => by
            rw [neqS]
            by_cases h1 : xs[k].1 = ys[k].1
            · have h2 : ¬ xs[k].2 = ys[k].2 := fun h2 => he (Prod.ext h1 h2)
              simp [h2]
            · simp [h1]
          clear he
          go_wp2_with fail
          go_quiet (fail)
          go_wp2
          go_ret
          exact ⟨by rw [HE.out]; rfl, below_drewN hb _⟩
      · obtain rfl : k = xs.length := by omega
        have HE := hd (eqL_all HL.out HT.out)
        go_wp2
        go_ret
        exact ⟨by rw [HE.out]; rfl, hb⟩
  · have HE := hd (eqL_len hl)
    have hlb : ((xs.length : Int) != (ys.length : Int)) = true := by simp; omega
    have hlc : ((xs.length : Int) == (ys.length : Int)) = false := by simp; omega
    clear hl
    go_enter Try.func24, Try.ntmps24
    go_wp2
    go_ret
    exact ⟨by rw [HE.out]; rfl, Below.refl _ _⟩
/-- A number is in a list. -/
def inL (xs : List Int) (n : Int) : Bool := decide (n ∈ xs)
theorem inL_yes {xs : List Int} {n : Int} {k : Nat} (h : k < xs.length) (e : xs[k] = n) : inL xs n = true := decide_eq_true (by rw [← e]; exact List.getElem_mem h)
theorem inL_no {xs : List Int} {n : Int} (h : ¬ n ∈ xs.take xs.length) : inL xs n = false := decide_eq_false (by rwa [List.take_length] at h)
set_option maxHeartbeats 400000 in
theorem isIn_any (A : Option Addr) (c : Nat) (xs : List Int) (n : Int) (w : World) (h : SlI w A c xs) :
    Calls Try.prog 31 #[.slice A xs.length c, .int .i64 n] w fun e w' => e = .returned (.bool (inL xs n)) ∧ w = w' := by
  have hmax := h.max
  have hcap := h.cap
  unfold maxLen at hmax
  go_enter Try.func31, Try.ntmps31
  go_wp2
  go_loop [5] (fun i => ∃ k : Nat, k ≤ xs.length ∧ i = .int .i64 k ∧ Hid (¬ n ∈ xs.take k)) (fun i => xs.length - (intOf i).toNat)
  case atStart => exact ⟨0, by omega, rfl, by simp [Hid]⟩
  case round =>
    obtain ⟨k, hk, rfl, HN⟩ := hrel
    by_cases hlt : k < xs.length
    · obtain ⟨ad, rfl, hbl, hc0⟩ := h.at hlt
      by_cases he : xs[k] = n
      · have HE := hd (inL_yes hlt he)
        have e1 : (xs[k] == n) = true := by simp [he]
        clear he
        go_wp2
        go_ret
        exact ⟨by rw [HE.out]; rfl, rfl⟩
      · have HN' := hd (show ¬ n ∈ xs.take (k + 1) by rw [List.take_succ_eq_append_getElem hlt]; simp only [List.mem_append, List.mem_singleton, not_or]; exact ⟨HN.out, fun e => he e.symm⟩)
        have e1 : (xs[k] == n) = false := by simp [he]
        clear he
        go_wp2
        go_round
        case rel => exact ⟨k + 1, by omega, by go_num, HN'⟩
        case measure => simp [intOf]; omega
    · obtain rfl : k = xs.length := by omega
      have HE := hd (inL_no HN.out)
      go_wp2
      go_ret
      exact ⟨by rw [HE.out]; rfl, rfl⟩
end Go.Proofs.Ytabemhjbpnnlpaa
