/- Contracts on shares: GiveShare, TakeShare of both. -/
import Derived.Test.YtjgijfmnplcdkaaWSb
namespace Go.Proofs.Ytjgijfmnplcdkaa
open Go.RowKit
set_option maxRecDepth 100000 in
set_option maxHeartbeats 1000000 in
theorem gv_any (t : Int) (A : Option Addr) (c : Nat) (xs : List Int) (B : Option Addr) (d : Nat) (ys : List Int) (oi : Int) (w : World) (h : SlI w A c xs) (h' : SlI w B d ys) :
    Calls Try.prog 13 #[.agg #[.int .i64 t, .slice A xs.length c, .slice B ys.length d], .int .i64 oi] w (ShO (AD t xs ys oi 1) t xs w) := by
  obtain ⟨W0, hW0⟩ : ∃ W0, W0 = (w.alloc (.cells #[.int .i64 t, .slice A xs.length c, .slice B ys.length d] 25)).alloc (.cells #[.int .i64 0, .slice none 0 0, .slice none 0 0] 25) := ⟨_, rfl⟩
  have hb0 : Below w.heap.size w W0 := by rw [hW0]; exact ext_alloc (ext_alloc (Below.refl _ _) _) _
  have hx0 : Bx W0 w.heap.size (.int .i64 t) (.slice A xs.length c) (.slice B ys.length d) := by rw [hW0]; exact (Bx.new w _ _ _).alloc _
  have hr0 : Bx W0 (w.heap.size + 1) (.int .i64 0) (.slice none 0 0) (.slice none 0 0) := by
    rw [hW0]
    have := Bx.new (w.alloc (.cells #[.int .i64 t, .slice A xs.length c, .slice B ys.length d] 25)) (.int .i64 0) (.slice none 0 0) (.slice none 0 0)
    rwa [World.size_alloc] at this
  have hW2 : w.heap.size + 2 ≤ W0.heap.size := by rw [hW0]; simp
  have s0 := h.ext hb0
  have s0' := h'.ext hb0
  have b0 := hx0.c0
  have b1 := hx0.c1
  have b2 := hx0.c2
  have HX0 := hd hx0
  have HR0 := hd hr0
  have HB0 := hd hb0
  clear hx0 hr0 hb0 h h'
  have con := add_any t A c xs B d ys oi 1 W0 s0 s0' (by omega) (by omega)
  cases ho : AD t xs ys oi 1 with
  | none =>
    rw [ho] at con
    have CON := hd con
    clear con ho
    go_enter Try.func13, Try.ntmps13
    go_wp2_with fail
    rw [← hW0]
    clear hW0
    refine CON.out.mono ?_
    rintro e w1 ⟨rfl, hx⟩
    have bz := HR0.out.ext hx
    have z0 := bz.c0
    have z1 := bz.c1
    have z2 := bz.c2
    have y0 := bz.free 0
    have y1 := bz.free 1
    have y2 := bz.free 2
    have hb1 := HB0.out.trans (hx.mono HB0.out.size)
    clear bz hx
    go_wp2
    refine bodyPost_ret (v := .tuple #[.agg #[.int .i64 0, .slice none 0 0, .slice none 0 0], .bool false]) (by simp [results, Try.results13, go_sem, z0, z1, z2]) rfl ?_
    exact ⟨rfl, res_below hb1 (by omega)⟩
  | some zs =>
    rw [ho] at con
    have CON := hd con
    clear con ho
    go_enter Try.func13, Try.ntmps13
    go_wp2_with fail
    rw [← hW0]
    clear hW0
    refine CON.out.mono ?_
    rintro e w1 ⟨P, p, Q, q, rfl, rP, rQ, hne, hx⟩
    have bz := HR0.out.ext hx
    have z0 := bz.c0
    have z1 := bz.c1
    have z2 := bz.c2
    have y0 := bz.free 0
    have y1 := bz.free 1
    have y2 := bz.free 2
    have hb1 := HB0.out.trans (hx.mono HB0.out.size)
    have HH := hd (And.intro rP (And.intro rQ hne))
    clear bz hx rP rQ hne
    go_wp2
    refine bodyPost_ret (v := .tuple #[.agg #[.int .i64 t, .slice P xs.length p, .slice Q zs.length q], .bool true]) (by simp [results, Try.results13, go_sem, z0, z1, z2]) rfl ?_
    exact ⟨P, p, Q, q, rfl, res_apart HH.out.1 (by omega) (by omega), res_apart HH.out.2.1 (by omega) (by omega), HH.out.2.2, res_below hb1 (by omega)⟩
set_option maxRecDepth 100000 in
set_option maxHeartbeats 2000000 in
theorem sgv_any (t : Int) (A : Option Addr) (c : Nat) (xs : List Int) (B : Option Addr) (d : Nat) (ys : List Int) (oi : Int) (w : World) (h : SlI w A c xs) (h' : SlI w B d ys) :
    Calls Try.prog 40 #[.agg #[.int .i64 t, .slice A xs.length c, .slice B ys.length d], .int .i64 oi] w (ShO (AD t xs ys oi 1) t xs w) := by
  obtain ⟨W0, hW0⟩ : ∃ W0, W0 = (w.alloc (.cells #[.int .i64 t, .slice A xs.length c, .slice B ys.length d] 25)).alloc (.cells #[.int .i64 0, .slice none 0 0, .slice none 0 0] 25) := ⟨_, rfl⟩
  have hb0 : Below w.heap.size w W0 := by rw [hW0]; exact ext_alloc (ext_alloc (Below.refl _ _) _) _
  have hx0 : Bx W0 w.heap.size (.int .i64 t) (.slice A xs.length c) (.slice B ys.length d) := by rw [hW0]; exact (Bx.new w _ _ _).alloc _
  have hr0 : Bx W0 (w.heap.size + 1) (.int .i64 0) (.slice none 0 0) (.slice none 0 0) := by
    rw [hW0]
    have := Bx.new (w.alloc (.cells #[.int .i64 t, .slice A xs.length c, .slice B ys.length d] 25)) (.int .i64 0) (.slice none 0 0) (.slice none 0 0)
    rwa [World.size_alloc] at this
  have hW2 : w.heap.size + 2 ≤ W0.heap.size := by rw [hW0]; simp
  have s0 := h.ext hb0
  have s0' := h'.ext hb0
  have b0 := hx0.c0
  have b1 := hx0.c1
  have b2 := hx0.c2
  have HX0 := hd hx0
  have HR0 := hd hr0
  have HB0 := hd hb0
  clear hx0 hr0 hb0 h h'
  cases h1 : VSh t xs ys with
  | false =>
    have HN := hd (AD_no1 (o := oi) (v := 1) h1)
    go_enter Try.func40, Try.ntmps40
    go_wp2_with fail
    rw [← hW0]
    clear hW0
    refine (svsh_any _ _ _ _ _ _ _ _ s0 s0').mono ?_
    rintro e w1 ⟨rfl, hx⟩
    rw [h1]
    have bz := HR0.out.ext hx
    have z0 := bz.c0
    have z1 := bz.c1
    have z2 := bz.c2
    have y0 := bz.free 0
    have y1 := bz.free 1
    have y2 := bz.free 2
    have hb1 := HB0.out.trans (hx.mono HB0.out.size)
    clear bz hx
    go_wp2
    refine bodyPost_ret (v := .tuple #[.agg #[.int .i64 0, .slice none 0 0, .slice none 0 0], .bool false]) (by simp [results, Try.results40, go_sem, z0, z1, z2]) rfl ?_
    exact shO_none HN.out rfl (res_below hb1 (by omega))
  | true =>
    cases h2 : inB oi 0 4 with
    | false =>
      have HN := hd (AD_no2 (t := t) (xs := xs) (ys := ys) (v := 1) h2)
      go_enter Try.func40, Try.ntmps40
      go_wp2_with fail
      rw [← hW0]
      clear hW0
      refine (svsh_any _ _ _ _ _ _ _ _ s0 s0').mono ?_
      rintro e w1 ⟨rfl, hx⟩
      rw [h1]
      have bz := HR0.out.ext hx
      have z0 := bz.c0
      have z1 := bz.c1
      have z2 := bz.c2
      have y0 := bz.free 0
      have y1 := bz.free 1
      have y2 := bz.free 2
      have hb1 := HB0.out.trans (hx.mono HB0.out.size)
      clear bz hx
      go_wp2_with (go_at_call 34; refine (inr_any _ _ _ _).mono ?_; rintro e w2 ⟨rfl, rfl⟩; rw [h2])
      refine bodyPost_ret (v := .tuple #[.agg #[.int .i64 0, .slice none 0 0, .slice none 0 0], .bool false]) (by simp [results, Try.results40, go_sem, z0, z1, z2]) rfl ?_
      exact shO_none HN.out rfl (res_below hb1 (by omega))
    | true =>
      have hh := inB_iff.1 h2
      obtain ⟨o, rfl⟩ : ∃ o : Nat, oi = (o : Int) := ⟨oi.toNat, by omega⟩
      have V := valid_iff.1 h1
      have ho : o < 5 := by omega
      have hoy : o < ys.length := by have := V.ly; omega
      have N3 := hd (fun h3 => AD_no3 (t := t) (xs := xs) (ys := ys) (i := o) (v := 1) h3)
      have N4 := hd (fun h3 => AD_ok (t := t) (xs := xs) (ys := ys) (i := o) (v := 1) h1 h2 h3)
      obtain ⟨zs, hzs⟩ : ∃ zs, chg ys o 1 = zs := ⟨_, rfl⟩
      have HZ := hd hzs
      rw [hzs] at N3 N4
      clear V hzs
      go_enter Try.func40, Try.ntmps40
      go_wp2_with fail
      rw [← hW0]
      clear hW0
      refine (svsh_any _ _ _ _ _ _ _ _ s0 s0').mono ?_
      rintro e w1 ⟨rfl, hx⟩
      rw [h1]
      have bz := HR0.out.ext hx
      clear bz
      have bx := HX0.out.ext hx
      have c0 := bx.c0
      have c1 := bx.c1
      have c2 := bx.c2
      have s1 := s0.ext hx
      have s1' := s0'.ext hx
      have hb1 := HB0.out.trans (hx.mono HB0.out.size)
      have hr1 := HR0.out.ext hx
      have hz1 := hx.size
      have HX1 := hd hx
      clear hx bx
      go_wp2_with (go_at_call 34; refine (inr_any _ _ _ _).mono ?_; rintro e w2 ⟨rfl, rfl⟩; rw [h2])
      refine (give_any _ _ _ _ _ _ _ zs o _ _ s1 s1' h1 ho (by omega) (by omega) HZ.out).mono ?_
      rintro e w2 ⟨P0, p0, Q0, q0, rfl, rP, rQ, -, hx⟩
      replace hr1 := hr1.ext hx
      have bx := HX0.out.ext (ext_trans HX1.out hx)
      have e0 := bx.c0
      have e1 := bx.c1
      have e2 := bx.c2
      replace s1 := s1.ext hx
      replace s1' := s1'.ext hx
      replace hb1 := hb1.trans (hx.mono hb1.size)
      have hz2 := hx.size
      clear bx c0 c1 c2
      have HXA := hd (ext_trans HX1.out hx)
      clear hx
      go_wp2_with fail
      refine (svsh_any _ _ _ _ _ _ _ _ rP.sl rQ.sl).mono ?_
      rintro e w4 ⟨rfl, hx⟩
      clear rP rQ
      replace hr1 := hr1.ext hx
      have bx := HX0.out.ext (ext_trans HXA.out hx)
      have f0 := bx.c0
      have f1 := bx.c1
      have f2 := bx.c2
      replace s1 := s1.ext hx
      replace s1' := s1'.ext hx
      replace hb1 := hb1.trans (hx.mono hb1.size)
      have hz3 := hx.size
      clear bx e0 e1 e2 hx
      cases h3 : VSh t xs zs with
      | false =>
        have bz := hr1
        have z0 := bz.c0
        have z1 := bz.c1
        have z2 := bz.c2
        have y0 := bz.free 0
        have y1 := bz.free 1
        have y2 := bz.free 2
        clear bz
        go_wp2
        refine bodyPost_ret (v := .tuple #[.agg #[.int .i64 0, .slice none 0 0, .slice none 0 0], .bool false]) (by simp [results, Try.results40, go_sem, z0, z1, z2]) rfl ?_
        exact shO_none (N3.out h3) rfl (res_below hb1 (by omega))
      | true =>
        have HR1 := hd hr1
        clear hr1
        go_wp2_with fail
        obtain ⟨WW, hWW⟩ : ∃ WW, WW = w4 := ⟨_, rfl⟩
        subst hWW
        refine (give_any _ _ _ _ _ _ _ zs o _ _ s1 s1' h1 ho (by omega) (by omega) HZ.out).mono ?_
        rintro e w3 ⟨P, p, Q, q, rfl, rP, rQ, hne, hx⟩
        have bz := HR1.out.ext hx
        have z0 := bz.c0
        have z1 := bz.c1
        have z2 := bz.c2
        have y0 := bz.free 0
        have y1 := bz.free 1
        have y2 := bz.free 2
        replace hb1 := hb1.trans (hx.mono hb1.size)
        have HH := hd (And.intro rP (And.intro rQ hne))
        clear bz hx rP rQ hne
        go_wp2
        refine bodyPost_ret (v := .tuple #[.agg #[.int .i64 t, .slice P xs.length p, .slice Q zs.length q], .bool true]) (by simp [results, Try.results40, go_sem, z0, z1, z2]) rfl ?_
        rw [N4.out h3]
        exact ⟨P, p, Q, q, rfl, res_apart (W0 := WW) HH.out.1 (by omega) (by omega), res_apart (W0 := WW) HH.out.2.1 (by omega) (by omega), HH.out.2.2, res_below hb1 (by omega)⟩
end Go.Proofs.Ytjgijfmnplcdkaa
