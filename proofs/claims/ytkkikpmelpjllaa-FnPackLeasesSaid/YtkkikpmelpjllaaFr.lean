/- How the law's argument, a []byte that came in, is opened for the walk. -/
import Derived.Test.YtkkikpmelpjllaaRdr
import Derived.Test.YtkkikpmelpjllaaFr0
import Derived.ProofKit
import Derived.OpenShut
import Derived.ShutString
import Derived.ChangeOld
namespace Go.Proofs.Ytkkikpmelpjllaa
open Go.ChangeShapes Go.WideShapes Go.ChangeAt Go.RowKit
theorem slB_of {H : Type} {enc : TypeId × Value → H} {W : World} {a0 : Option Addr} {n c : Nat} {x : DataW H × List MemPlace} {fuel : Nat}
    (hf : DataW.trod enc Try.prog W 0 (fun _ => true) true fuel 22 [.slice a0 n c] = some x) : SlB W a0 n c := by
  rcases open_ints Try.underlying22 Try.underlying5 (by kernel_rfl) hf with ⟨hcs, _⟩ | ⟨y, l, d, zs, hcs, _, hl, hm, hz, _, hcell, hwz⟩
  · simp at hcs
    obtain ⟨rfl, rfl, rfl⟩ := hcs
    exact ⟨Nat.le_refl _, Nat.zero_le _, fun h => absurd h (by omega)⟩
  · simp at hcs
    obtain ⟨rfl, rfl, rfl⟩ := hcs
    have hz : zs.length = c := by simpa using hz
    refine ⟨hl, hm, fun h0 => ⟨y, rfl, ?_, fun j hj => ?_⟩⟩
    · have h := World.block_lt_of_cell? W _ (hcell 0 (by omega))
      rwa [blk_add] at h
    · have hj' : j < zs.length := by omega
      have hw := hwz (zs.getD j 0) (by rw [List.getD_eq_getElem?_getD, List.getElem?_eq_getElem hj']; exact List.getElem_mem _)
      have hw : 0 ≤ zs.getD j 0 ∧ zs.getD j 0 ≤ 255 := by simpa [Lit.wf, IntKind.min, IntKind.max, IntKind.signed, IntKind.bits] using hw
      exact ⟨_, hw.1, hw.2, hcell j hj'⟩
end Go.Proofs.Ytkkikpmelpjllaa
