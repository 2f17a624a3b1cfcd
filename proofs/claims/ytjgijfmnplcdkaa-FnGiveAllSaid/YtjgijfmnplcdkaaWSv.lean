/- Contracts on shares: ValidShare of the reference, sums of the laws. -/
import Derived.Test.YtjgijfmnplcdkaaWSh
namespace Go.Proofs.Ytjgijfmnplcdkaa
open Go.RowKit
theorem lsum_q (A : Option Addr) (c : Nat) (xs : List Int) (w : World) (h : SlI w A c xs) (hl : xs.length ≤ 1000) (hv : ∀ i, i < xs.length → 0 ≤ at0 xs i ∧ at0 xs i ≤ 1000) :
    Calls Try.prog 11 #[.slice A xs.length c] w fun e w' => e = .returned (.int .i64 xs.sum) ∧ w' = w := (lsum_any A c xs w h hl hv).mono fun _ _ h => ⟨h.1, h.2.symm⟩
theorem slI_nil (W : World) : SlI W none 0 [] := Sl.nil W 1 none 0 (by decide)
theorem valid_sums {t : Int} {xs ys : List Int} (h : VSh t xs ys = true) : ∀ i, i < ys.length → 0 ≤ at0 ys i ∧ at0 ys i ≤ 1000 := fun i hi => by
  have V := valid_iff.1 h
  have := V.ly
  have a := V.my i (by omega)
  have b := V.mx i (by omega)
  omega
theorem valid_len {t : Int} {xs ys : List Int} (h : VSh t xs ys = true) : ys.length ≤ 1000 ∧ 5 ≤ ys.length ∧ 5 ≤ xs.length := by
  have V := valid_iff.1 h
  have := V.ly
  have := V.lx
  omega
end Go.Proofs.Ytjgijfmnplcdkaa
