/- Contracts on caches: DropStatement of both. -/
import Derived.Test.YtmenknnncjbbpaaWC5
namespace Go.Proofs.Ytmenknnncjbbpaa
open Go.RowKit
/-- A cache, or none. -/
def CaD (o : Option (List Int)) (r : Int) (w : World) (e : Ending) (w' : World) : Prop :=
  match o with
  | none => e = .returned (.tuple #[.agg #[.int .i64 0, .slice none 0 0], .bool false]) ∧ Below w.heap.size w w'
  | some zs => CaB zs r true w e w'
theorem caD_none {o : Option (List Int)} {r : Int} {w w' : World} {e : Ending} (h : o = none) (he : e = .returned (.tuple #[.agg #[.int .i64 0, .slice none 0 0], .bool false])) (hb : Below w.heap.size w w') : CaD o r w e w' := by
  subst h; exact ⟨he, hb⟩
theorem DRP_no1 {r : Int} {xs : List Int} {v : Int} (h : VCa r xs = false) : DRP r xs v = none := if_neg fun h' => by rw [h] at h'; cases h'.1
theorem DRP_no2 {r : Int} {xs : List Int} {v : Int} (h : hasB xs v = false) : DRP r xs v = none := if_neg fun h' => by rw [h] at h'; cases h'.2
theorem DRP_ok {r : Int} {xs : List Int} {v : Int} (h : VCa r xs = true) (h2 : hasB xs v = true) : DRP r xs v = some (lv xs v) := if_pos ⟨h, h2⟩
end Go.Proofs.Ytmenknnncjbbpaa
