/- More that the walks of the laws on caches lean on. -/
import Derived.Test.YtkbbjkjdcdjnbaaWCl
import Derived.Test.YtkbbjkjdcdjnbaaPCm
namespace Go.Proofs.Ytkbbjkjdcdjnbaa
theorem SlI.atN {w : World} {ad : Addr} {c : Nat} {xs : List Int} (h : SlI w (some ad) c xs) {i : Nat} (hi : i < xs.length) : w.cell? (ad.add i) = some (.int .i64 (at0 xs i)) := by
  rw [at0_of hi]; exact h.at1 hi
end Go.Proofs.Ytkbbjkjdcdjnbaa
