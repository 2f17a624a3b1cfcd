/- Contracts on shares: equalShare of one share held twice. -/
import Derived.Test.YtiaianjnelgpiaaWSh
namespace Go.Proofs.Ytiaianjnelgpiaa
open Go.RowKit
set_option maxHeartbeats 1000000 in
theorem equalSh_same (t : Int) (A : Option Addr) (c : Nat) (xs : List Int) (B : Option Addr) (d : Nat) (ys : List Int) (A' : Option Addr) (c' : Nat) (B' : Option Addr) (d' : Nat) (w : World) (h : SlI w A c xs) (h' : SlI w B d ys) (k : SlI w A' c' xs) (k' : SlI w B' d' ys) :
    Calls Try.prog 19 #[.agg #[.int .i64 t, .slice A xs.length c, .slice B ys.length d], .agg #[.int .i64 t, .slice A' xs.length c', .slice B' ys.length d']] w fun e w' => e = .returned (.bool true) ∧ Below w.heap.size w w' := by
  obtain ⟨W0, hW0⟩ : ∃ W0, W0 = (w.alloc (.cells #[.int .i64 t, .slice A xs.length c, .slice B ys.length d] 25)).alloc (.cells #[.int .i64 t, .slice A' xs.length c', .slice B' ys.length d'] 25) := ⟨_, rfl⟩
  have hb0 : Below w.heap.size w W0 := by rw [hW0]; exact ext_alloc (ext_alloc (Below.refl _ _) _) _
  have bA : Bx W0 w.heap.size (.int .i64 t) (.slice A xs.length c) (.slice B ys.length d) := by rw [hW0]; exact (Bx.new w _ _ _).alloc _
  have bR : Bx W0 (w.heap.size + 1) (.int .i64 t) (.slice A' xs.length c') (.slice B' ys.length d') := by
    have := Bx.new (w.alloc (.cells #[.int .i64 t, .slice A xs.length c, .slice B ys.length d] 25)) (.int .i64 t) (.slice A' xs.length c') (.slice B' ys.length d')
    rw [World.size_alloc] at this
    rw [hW0]
    exact this
  have HB0 := hd hb0
  have HS := hd (And.intro h (And.intro h' (And.intro k k')))
  have s1 := h.ext hb0
  have s2 := k.ext hb0
  have S1 := hd (sameI_self xs)
  have S2 := hd (sameI_self ys)
  have gt : (t == t) = true := by simp
  have H0 := hd (And.intro bA bR)
  have c0 := bA.c0
  have d0 := bR.c0
  have c1 := bA.c1
  have d1 := bR.c1
  clear bA bR hb0 h h' k k'
  go_enter Try.func19, Try.ntmps19
  go_wp2_with fail
  rw [← hW0]
  clear hW0
  refine (equalInts_any _ _ _ _ _ _ _ s1 s2).mono ?_
  rintro e w1 ⟨rfl, hx⟩
  rw [S1.out]
  have hb1 := HB0.out.trans (hx.mono HB0.out.size)
  have s1 := HS.out.2.1.ext hb1
  have s2 := HS.out.2.2.2.ext hb1
  have bA := H0.out.1.ext hx
  have bR := H0.out.2.ext hx
  have c2 := bA.c2
  have d2 := bR.c2
  have HB1 := hd hb1
  clear bA bR hx hb1 c0 d0 c1 d1 HB0
  go_wp2_with fail
  refine (equalInts_any _ _ _ _ _ _ _ s1 s2).mono ?_
  rintro e w2 ⟨rfl, hx⟩
  rw [S2.out]
  go_wp2
  go_ret
  exact ⟨rfl, HB1.out.trans (hx.mono HB1.out.size)⟩
end Go.Proofs.Ytiaianjnelgpiaa
