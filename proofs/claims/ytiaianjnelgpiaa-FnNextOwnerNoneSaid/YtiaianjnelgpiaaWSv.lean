/- Contracts on shares: ValidShare of the reference, sums of the laws. -/
import Derived.Test.YtiaianjnelgpiaaWSh
namespace Go.Proofs.Ytiaianjnelgpiaa
open Go.RowKit
set_option maxHeartbeats 400000 in
theorem spvs_any (t : Int) (A : Option Addr) (c : Nat) (xs : List Int) (B : Option Addr) (d : Nat) (ys : List Int) (w : World) (h : SlI w A c xs) (h' : SlI w B d ys) :
    Calls Try.prog 13 #[.agg #[.int .i64 t, .slice A xs.length c, .slice B ys.length d]] w fun e w' => e = .returned (.bool (VSh t xs ys)) ∧ Below w.heap.size w w' := by
  have hb0 : Below w.heap.size w (w.alloc (.cells #[.int .i64 t, .slice A xs.length c, .slice B ys.length d] 25)) := ext_alloc (Below.refl _ _) _
  have s := h.ext hb0
  have s' := h'.ext hb0
  go_enter Try.func13, Try.ntmps13
  go_wp2_with fail
  refine (svsh_any _ _ _ _ _ _ _ _ s s').mono ?_
  rintro e w1 ⟨rfl, hx⟩
  go_wp2
  go_ret
  exact ⟨rfl, ext_trans hb0 hx⟩
theorem lsum_q (A : Option Addr) (c : Nat) (xs : List Int) (w : World) (h : SlI w A c xs) (hl : xs.length ≤ 1000) (hv : ∀ i, i < xs.length → 0 ≤ at0 xs i ∧ at0 xs i ≤ 1000) :
    Calls Try.prog 14 #[.slice A xs.length c] w fun e w' => e = .returned (.int .i64 xs.sum) ∧ w' = w := (lsum_any A c xs w h hl hv).mono fun _ _ h => ⟨h.1, h.2.symm⟩
theorem slI_nil (W : World) : SlI W none 0 [] := Sl.nil W 1 none 0 (by decide)
theorem valid_sums {t : Int} {xs ys : List Int} (h : VSh t xs ys = true) : ∀ i, i < ys.length → 0 ≤ at0 ys i ∧ at0 ys i ≤ 1000 := fun i hi => by
  have V := valid_iff.1 h
  have := V.ly
  have a := V.my i (by omega)
  have b := V.mx i (by omega)
  omega
theorem valid_len {t : Int} {xs ys : List Int} (h : VSh t xs ys = true) : ys.length ≤ 1000 ∧ 5 ≤ ys.length ∧ 5 ≤ xs.length := by
  have V := valid_iff.1 h
  have := V.ly
  have := V.lx
  omega
end Go.Proofs.Ytiaianjnelgpiaa
