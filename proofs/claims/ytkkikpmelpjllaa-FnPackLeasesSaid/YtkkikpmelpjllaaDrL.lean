/- What the leases' draws give. -/
import Derived.Test.YtkkikpmelpjllaaWL4
import Derived.Test.YtkkikpmelpjllaaRdr
import Derived.Deep.RegionHeld3
import Derived.Deep.DeepCutAuto
namespace Go.Proofs.Ytkkikpmelpjllaa
open Go.RowKit
/-- What a further lease leaves: leases, one more at most. -/
def AdL (n : Nat) (w : World) (e : Ending) (w' : World) : Prop :=
  ∃ (v : Value) (zs : List Le) (b : Bool), e = .returned (.tuple #[v, .bool b]) ∧ w'.ownsRow w.heap.size 30 4 v zs.length (cle zs) ∧ zs.length ≤ n + 1 ∧ Below w.heap.size w w'
theorem sl_apart_of {w w' : World} {k n c g : Nat} {xs : List Value} {row : Option Nat} (h : Sl w k (some ⟨g, 0, none⟩) n c xs) (hg : w.grownBy w' row) (hr : row ≠ some g) : Sl w' k (some ⟨g, 0, none⟩) n c xs :=
  Sl.apart h hg (fun j hj e => by
    unfold rowOf at hj
    split at hj
    · cases hj
    · injection hj with hj
      rw [← hj] at e
      exact hr e)
set_option maxRecDepth 100000 in
set_option maxHeartbeats 2000000 in
theorem addLease_any (A : Option Addr) (c : Nat) (xs : List Le) (x : Le) (w : World) (h : SlL w A c xs) (hl : xs.length ≤ 1000) :
    Calls Try.prog 42 #[.slice A xs.length c, .agg #[.int .i64 x.1, .int .i64 x.2.1, .int .i64 x.2.2.1, .int .i64 x.2.2.2]] w (AdL xs.length w) := by
  obtain ⟨W0, hW0⟩ : ∃ W0, W0 = w.alloc (.cells #[.int .i64 x.1, .int .i64 x.2.1, .int .i64 x.2.2.1, .int .i64 x.2.2.2] 30) := ⟨_, rfl⟩
  have hb0 : Below w.heap.size w W0 := by rw [hW0]; exact ext_alloc (Below.refl _ _) _
  have bx : Lx W0 w.heap.size x := by rw [hW0]; exact Lx.new w x
  have hz0 := bx.lt
  have s0 := h.ext hb0
  have HF := hd (And.intro bx (And.intro s0 hb0))
  clear h hb0
  go_enter Try.func42, Try.ntmps42
  go_upto_region 1 with fail
  rw [← hW0]
  clear hW0
  obtain ⟨gb, hgb⟩ : ∃ g, g = w.heap.size := ⟨_, rfl⟩
  rw [← hgb] at bx hz0 ⊢
  have HGB := hd hgb
  clear hgb
  go_cut [6] (fun s wx => ∃ v, s = v ∧ wx.ownsRow W0.heap.size 30 4 v (xs.length + 1) (cle (xs ++ [x])) ∧ Below W0.heap.size W0 wx)
  case first =>
    have E0 := hd (show ((W0.alloc (.cells #[] 30)).drew).ownsRow W0.heap.size 30 4 (.slice (some ⟨W0.heap.size, 0, none⟩) 0 0) 0 [] from own_made W0 _ 4 [] 0 rfl (by decide))
    have E1 := hd (show Sl ((W0.alloc (.cells #[] 30)).drew) 4 A xs.length c (cle xs) from Sl.alloc s0 _)
    have c0 := bx.c0
    have c1 := bx.c1
    have c2 := bx.c2
    have c3 := bx.c3
    have F0 := hd (show (((W0.alloc (.cells #[] 30)).alloc (.cells #[.int .i64 x.1, .int .i64 x.2.1, .int .i64 x.2.2.1, .int .i64 x.2.2.2] 30)).drew).ownsRow W0.heap.size 30 4 (.slice (some ⟨W0.heap.size, 0, none⟩) 0 0) 0 [] from (own_made W0 _ 4 [] 0 rfl (by decide)).alloc _)
    have F1 := hd (show Sl (((W0.alloc (.cells #[] 30)).alloc (.cells #[.int .i64 x.1, .int .i64 x.2.1, .int .i64 x.2.2.1, .int .i64 x.2.2.2] 30)).drew) 4 A xs.length c (cle xs) from (Sl.alloc s0 _).alloc _)
    have F2 := hd (show Sl (((W0.alloc (.cells #[] 30)).alloc (.cells #[.int .i64 x.1, .int .i64 x.2.1, .int .i64 x.2.2.1, .int .i64 x.2.2.2] 30)).drew) 4 (some ⟨W0.heap.size + 1, 0, none⟩) 1 1 (cle [x]) from by
      have := sl_made (w := W0.alloc (.cells #[] 30)) (e := 30) (k := 4) (m := 1) (cs := cle [x]) rfl (by decide)
      rw [World.size_alloc] at this
      exact this)
    have G0 := hd (show (((W0.alloc (.cells #[.int .i64 x.1, .int .i64 x.2.1, .int .i64 x.2.2.1, .int .i64 x.2.2.2] 30)).alloc (.cells #[] 30)).drew).ownsRow W0.heap.size 30 4 (.slice (some ⟨W0.heap.size + 1, 0, none⟩) 0 0) 0 [] from by
      have := own_made (W0.alloc (.cells #[.int .i64 x.1, .int .i64 x.2.1, .int .i64 x.2.2.1, .int .i64 x.2.2.2] 30)) 30 4 [] 0 rfl (by decide)
      rw [World.size_alloc] at this
      exact own_mono this (by omega))
    have G1 := hd (show Sl (((W0.alloc (.cells #[.int .i64 x.1, .int .i64 x.2.1, .int .i64 x.2.2.1, .int .i64 x.2.2.2] 30)).alloc (.cells #[] 30)).drew) 4 A xs.length c (cle xs) from (Sl.alloc s0 _).alloc _)
    have G2 := hd (show Sl (((W0.alloc (.cells #[.int .i64 x.1, .int .i64 x.2.1, .int .i64 x.2.2.1, .int .i64 x.2.2.2] 30)).alloc (.cells #[] 30)).drew) 4 (some ⟨W0.heap.size, 0, none⟩) 1 1 (cle [x]) from (sl_made (w := W0) (e := 30) (k := 4) (m := 1) (cs := cle [x]) rfl (by decide)).alloc _)
    have HX := hd bx
    have ke := bx.ext (ext_alloc (Below.refl _ _) (.cells #[] 30))
    have k0 := ke.c0
    have k1 := ke.c1
    have k2 := ke.c2
    have k3 := ke.c3
    clear bx s0 ke
    go_region_held3 (fun W => W.cell? ⟨gb, 0, none⟩ = some (.int .i64 x.1) ∧ W.cell? ⟨gb, 1, none⟩ = some (.int .i64 x.2.1) ∧ W.cell? ⟨gb, 2, none⟩ = some (.int .i64 x.2.2.1) ∧ W.cell? ⟨gb, 3, none⟩ = some (.int .i64 x.2.2.2)) (first | exact ⟨c0, c1, c2, c3⟩ | exact ⟨d0, d1, d2, d3⟩ | exact ⟨k0, k1, k2, k3⟩ | exact ⟨e0, e1, e2, e3⟩ | go_keep) (first
      | ((refine step_apps eltLe (.tmp 7) (.tmp 8) E0.out E1.out (cle_one _) (by omega) (by omega) (by simp) (by rfl) (by rfl) (by rfl) (by rfl) ?_; intro v1 w5 hown1 hg1; have hx5 : Below W0.heap.size W0 w5 := ((Below.refl _ _).alloc (Nat.le_refl _) _).drew.grown hg1 (by simp) (by intro k hk; simp [Value.ownBlock] at hk; omega); have b5 := HX.out.ext hx5; have d0 := b5.c0; have d1 := b5.c1; have d2 := b5.c2; have d3 := b5.c3; clear b5))
      | ((refine step_apps eltLe (.tmp 7) (.tmp 8) F0.out F1.out (cle_one _) (by omega) (by omega) (by simp <;> omega) (by rfl) (by rfl) (by rfl) (by rfl) ?_; intro v1 w5 hown1 hg1; have hx5 : Below W0.heap.size W0 w5 := (((Below.refl _ _).alloc (Nat.le_refl _) _).alloc (by simp) _).drew.grown hg1 (by simp <;> omega) (by intro k hk; simp [Value.ownBlock] at hk; omega); have S5 := hd (sl_apart_of F2.out hg1 (by simp [Value.ownBlock])); have b5 := HX.out.ext hx5; have d0 := b5.c0; have d1 := b5.c1; have d2 := b5.c2; have d3 := b5.c3; clear b5))
      | ((refine step_apps eltLe (.tmp 7) (.tmp 8) G0.out G1.out (cle_one _) (by omega) (by omega) (by simp <;> omega) (by rfl) (by rfl) (by rfl) (by rfl) ?_; intro v1 w5 hown1 hg1; have hx5 : Below W0.heap.size W0 w5 := (((Below.refl _ _).alloc (Nat.le_refl _) _).alloc (by simp) _).drew.grown hg1 (by simp <;> omega) (by intro k hk; simp [Value.ownBlock] at hk; omega); have S5 := hd (sl_apart_of G2.out hg1 (by simp [Value.ownBlock])); have b5 := HX.out.ext hx5; have d0 := b5.c0; have d1 := b5.c1; have d2 := b5.c2; have d3 := b5.c3; clear b5))
      | ((refine step_apps eltLe (.tmp 9) (.tmp 11) (hown1.alloc _) (sl_made (w := w5) (k := 4) (m := 1) (cs := cle [x]) rfl (by decide)) (cle_one _) (by omega) (by omega) (by have := hx5.size; simp; omega) (by rfl) (by rfl) (by rfl) (by rfl) ?_; intro v2 w6 hown2 hg2; have hown3 : w6.ownsRow W0.heap.size 30 4 v2 (xs.length + 1) (cle (xs ++ [x])) := (by have := hown2; rw [Nat.zero_add, List.nil_append] at this; rw [cle_append]; exact this); have hx6 : Below W0.heap.size W0 w6 := (hx5.alloc hx5.size _).grown hg2 (by have := hx5.size; simp; omega) (own_ge hown1); have b6 := HX.out.ext hx6; have e0 := b6.c0; have e1 := b6.c1; have e2 := b6.c2; have e3 := b6.c3; clear b6))
      | ((refine step_apps eltLe (.tmp 9) (.tmp 11) hown1 S5.out (cle_one _) (by omega) (by omega) (by exact hx5.size) (by rfl) (by rfl) (by rfl) (by rfl) ?_; intro v2 w6 hown2 hg2; have hown3 : w6.ownsRow W0.heap.size 30 4 v2 (xs.length + 1) (cle (xs ++ [x])) := (by have := hown2; rw [Nat.zero_add, List.nil_append] at this; rw [cle_append]; exact this); have hx6 : Below W0.heap.size W0 w6 := hx5.grown hg2 hx5.size (own_ge hown1); have b6 := HX.out.ext hx6; have e0 := b6.c0; have e1 := b6.c1; have e2 := b6.c2; have e3 := b6.c3; clear b6))
      | fail)
    all_goals (go_wp2_with fail; go_meet; exact ⟨_, rfl, hown3, hx6⟩)
  case rest =>
    obtain ⟨v, rfl, hown, hx⟩ := hcut
    obtain ⟨zs, hzs⟩ : ∃ zs, zs = xs ++ [x] := ⟨_, rfl⟩
    have hzl : xs.length + 1 = zs.length := by rw [hzs]; simp
    rw [← hzs, hzl] at hown
    obtain ⟨P, p, rfl, hr, -⟩ := Sl.of_own hown
    have HZL := hd hzl
    have HO := hd hown
    have HR := hd (show SlL wc P p zs from hr)
    clear hzs hzl
    have HS := hd (HF.out.2.1.ext hx)
    have HB := hd (ext_trans HF.out.2.2 hx)
    have hgw := HGB.out
    have HZ := hd (show w.heap.size ≤ W0.heap.size from HF.out.2.2.size)
    clear hown hr bx s0
    have V1 := hd (svl_any A c xs wc HS.out)
    have HN : Hid (∀ W : World, W.ownsRow w.heap.size 30 4 (.slice none 0 0) ([] : List Le).length (cle [])) := hd (fun W => ⟨rfl, .inl ⟨rfl, rfl⟩⟩)
    clear hgw
    cases hv1 : VL xs with
    | false =>
      rw [hv1] at V1
      clear hv1
      go_wp2_with fail
      refine V1.out.mono ?_
      rintro e w7 ⟨rfl, hx7⟩
      have HB7 := hd (ext_trans HB.out hx7)
      clear hx7 hx
      go_wp2
      go_ret2
      exact ⟨_, [], false, rfl, HN.out _, by simp, HB7.out⟩
    | true =>
      rw [hv1] at V1
      clear hv1
      go_wp2_with fail
      refine V1.out.mono ?_
      rintro e w7 ⟨rfl, hx7⟩
      have HB7 := hd (ext_trans HB.out hx7)
      have HR7 := hd (HR.out.ext hx7)
      have HO7 := hd (own_ext HO.out hx7)
      have V2 := hd (svl_any P p zs w7 HR7.out)
      clear hx7 hx
      cases hv2 : VL zs with
      | false =>
        rw [hv2] at V2
        clear hv2
        go_wp2_with fail
        refine V2.out.mono ?_
        rintro e w8 ⟨rfl, hx8⟩
        have HB8 := hd (ext_trans HB7.out hx8)
        clear hx8
        go_wp2
        go_ret2
        exact ⟨_, [], false, rfl, HN.out _, by simp, HB8.out⟩
      | true =>
        rw [hv2] at V2
        clear hv2
        go_wp2_with fail
        refine V2.out.mono ?_
        rintro e w8 ⟨rfl, hx8⟩
        have HB8 := hd (ext_trans HB7.out hx8)
        have HO8 := hd (own_ext HO7.out hx8)
        clear hx8
        go_wp2
        go_ret2
        exact ⟨_, zs, true, rfl, own_mono HO8.out HZ.out, by have := HZL.out; omega, HB8.out⟩
end Go.Proofs.Ytkkikpmelpjllaa
