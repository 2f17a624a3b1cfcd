/- Contracts of leases: meets, valid ones, copies. -/
import Derived.Test.YtkkikpmelpjllaaMLe
import Derived.Test.YtkkikpmelpjllaaPLe
import Derived.Test.YtkkikpmelpjllaaWI
import Derived.Deep.DeepCutAuto
namespace Go.Proofs.Ytkkikpmelpjllaa
open Go.RowKit
/-- A lease as a value. -/
def lv4 (y : Le) : Value := .agg #[.int .i64 y.1, .int .i64 y.2.1, .int .i64 y.2.2.1, .int .i64 y.2.2.2]
set_option maxHeartbeats 400000 in
theorem meets_any (y : Le) (f u : Int) (w : World) :
    Calls Try.prog 19 #[.agg #[.int .i64 y.1, .int .i64 y.2.1, .int .i64 y.2.2.1, .int .i64 y.2.2.2], .int .i64 f, .int .i64 u] w fun e w' => e = .returned (.bool (meB y f u)) ∧ Below w.heap.size w w' := by
  by_cases h1 : y.2.2.1 < u
  · by_cases h2 : f < y.2.2.2
    · have e1 := hd (show meB y f u = true by simp [meB, h1, h2])
      go_enter Try.func19, Try.ntmps19
      go_wp2
      go_ret
      exact ⟨by rw [e1.out]; rfl, ext_alloc (Below.refl _ _) _⟩
    · have e1 := hd (show meB y f u = false by simp [meB, h1, h2])
      go_enter Try.func19, Try.ntmps19
      go_wp2
      go_ret
      exact ⟨by rw [e1.out]; rfl, ext_alloc (Below.refl _ _) _⟩
  · have e1 := hd (show meB y f u = false by simp [meB, h1])
    go_enter Try.func19, Try.ntmps19
    go_wp2
    go_ret
    exact ⟨by rw [e1.out]; rfl, ext_alloc (Below.refl _ _) _⟩
set_option maxHeartbeats 400000 in
theorem smeets_any (y x : Le) (w : World) :
    Calls Try.prog 38 #[.agg #[.int .i64 y.1, .int .i64 y.2.1, .int .i64 y.2.2.1, .int .i64 y.2.2.2], .agg #[.int .i64 x.1, .int .i64 x.2.1, .int .i64 x.2.2.1, .int .i64 x.2.2.2]] w fun e w' => e = .returned (.bool (meB y x.2.2.1 x.2.2.2)) ∧ Below w.heap.size w w' := by
  by_cases h1 : y.2.2.1 < x.2.2.2
  · by_cases h2 : x.2.2.1 < y.2.2.2
    · have e1 := hd (show meB y x.2.2.1 x.2.2.2 = true by simp [meB, h1, h2])
      go_enter Try.func38, Try.ntmps38
      go_wp2
      go_ret
      exact ⟨by rw [e1.out]; rfl, ext_alloc (ext_alloc (Below.refl _ _) _) _⟩
    · have e1 := hd (show meB y x.2.2.1 x.2.2.2 = false by simp [meB, h1, h2])
      go_enter Try.func38, Try.ntmps38
      go_wp2
      go_ret
      exact ⟨by rw [e1.out]; rfl, ext_alloc (ext_alloc (Below.refl _ _) _) _⟩
  · have e1 := hd (show meB y x.2.2.1 x.2.2.2 = false by simp [meB, h1])
    go_enter Try.func38, Try.ntmps38
    go_wp2
    go_ret
    exact ⟨by rw [e1.out]; rfl, ext_alloc (ext_alloc (Below.refl _ _) _) _⟩
set_option maxHeartbeats 400000 in
theorem isConn_any (n : Int) (w : World) : Calls Try.prog 24 #[.int .i64 n] w fun e w' => e = .returned (.bool (inB n 0 5)) ∧ w = w' := by
  go_enter Try.func24, Try.ntmps24
  go_wp2_with fail
  refine (in_any _ _ _ _).mono ?_
  rintro e w' ⟨rfl, rfl⟩
  go_wp2
  go_ret
  exact ⟨rfl, rfl⟩
set_option maxHeartbeats 400000 in
theorem isOwnerL_any (n : Int) (w : World) : Calls Try.prog 25 #[.int .i64 n] w fun e w' => e = .returned (.bool (inB n 0 4)) ∧ w = w' := by
  go_enter Try.func25, Try.ntmps25
  go_wp2_with fail
  refine (in_any _ _ _ _).mono ?_
  rintro e w' ⟨rfl, rfl⟩
  go_wp2
  go_ret
  exact ⟨rfl, rfl⟩
set_option maxHeartbeats 400000 in
theorem vl1_any (y x : Le) (g : Nat) (w : World) (hx : Lx w g x) :
    Calls Try.prog 28 #[.agg #[.int .i64 y.1, .int .i64 y.2.1, .int .i64 y.2.2.1, .int .i64 y.2.2.2], .pointer (some ⟨g, 0, none⟩)] w fun e w' => e = .returned (.bool (clB y x)) ∧ Below w.heap.size w w' := by
  obtain ⟨W0, hW0⟩ : ∃ W0, W0 = w.alloc (.cells #[.int .i64 y.1, .int .i64 y.2.1, .int .i64 y.2.2.1, .int .i64 y.2.2.2] 30) := ⟨_, rfl⟩
  have hb0 : Below w.heap.size w W0 := by rw [hW0]; exact ext_alloc (Below.refl _ _) _
  have bx := hx.ext hb0
  have by' : Lx W0 w.heap.size y := by rw [hW0]; exact Lx.new w y
  have HB := hd hb0
  have c0 := bx.c0
  have c2 := bx.c2
  have c3 := bx.c3
  have y0 := by'.c0
  have y1 := by'.c1
  have y2 := by'.c2
  have y3 := by'.c3
  clear hx bx by' hb0
  by_cases h1 : y.1 = x.1
  · have g1 : (y.1 == x.1) = true := beq_iff_eq.2 h1
    have e1 := hd (show clB y x = meB y x.2.2.1 x.2.2.2 by simp only [clB, g1, Bool.true_and])
    clear h1
    go_enter Try.func28, Try.ntmps28
    go_upto_region 1 with fail
    rw [← hW0]
    clear hW0
    go_wp2_with fail
    refine (meets_any y _ _ _).mono ?_
    rintro e w1 ⟨rfl, hx⟩
    go_wp2
    go_ret
    exact ⟨by rw [e1.out]; rfl, ext_trans HB.out hx⟩
  · have g1 : (y.1 == x.1) = false := beq_eq_false_iff_ne.2 h1
    have e1 := hd (show clB y x = false by simp only [clB, g1, Bool.false_and])
    clear h1
    go_enter Try.func28, Try.ntmps28
    go_upto_region 1 with fail
    rw [← hW0]
    clear hW0
    go_wp2
    go_ret
    exact ⟨by rw [e1.out]; rfl, HB.out⟩
end Go.Proofs.Ytkkikpmelpjllaa
