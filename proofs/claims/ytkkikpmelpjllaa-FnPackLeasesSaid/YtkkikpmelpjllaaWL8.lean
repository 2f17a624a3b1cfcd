/- Contracts of leases: the program's PackLeases. -/
import Derived.Test.YtkkikpmelpjllaaWL7
namespace Go.Proofs.Ytkkikpmelpjllaa
open Go.RowKit
/-- What the boxes of PackLeases hold. -/
def Env (xs : List Le) (L : Option Addr) (l g1 g4 g5 : Nat) (O : Option Addr) (o B : Nat) (ov : Value) (out : List Le) (w0 w : World) : Prop :=
  Vx 23 w g1 (.slice L xs.length l) ∧ SlL w L l xs ∧ Vx 23 w g4 (.slice O xs.length o) ∧ Rw w B 30 4 O xs.length o (cle out) ∧ Vx 37 w g5 ov ∧ Below w0.heap.size w0 w
/-- Where the boxes lie. -/
def Stc (xs : List Le) (L : Option Addr) (g1 g4 g5 : Nat) (O : Option Addr) (B : Nat) (w0 : World) : Prop :=
  w0.heap.size ≤ g1 ∧ g1 < B ∧ B ≤ g4 ∧ g4 < g5 ∧ (∀ k, rowOf L xs.length = some k → k < w0.heap.size) ∧ ∀ k, rowOf O xs.length = some k → B ≤ k ∧ k < g4
section
variable {xs out : List Le} {L O : Option Addr} {l g1 g4 g5 o B : Nat} {ov : Value} {w0 w w' : World}
theorem Env.ext (h : Env xs L l g1 g4 g5 O o B ov out w0 w) (hb : Below w.heap.size w w') : Env xs L l g1 g4 g5 O o B ov out w0 w' :=
  ⟨h.1.ext hb, h.2.1.ext hb, h.2.2.1.ext hb, Rw.ext h.2.2.2.1 hb, h.2.2.2.2.1.ext hb, h.2.2.2.2.2.trans (hb.mono h.2.2.2.2.2.size)⟩
theorem Env.row {row : Option Nat} (h : Env xs L l g1 g4 g5 O o B ov out w0 w) (st : Stc xs L g1 g4 g5 O B w0) (hg : w.grownBy w' row) (hr : ∀ j, row = some j → g5 < j) : Env xs L l g1 g4 g5 O o B ov out w0 w' := by
  obtain ⟨s1, s2, s3, s4, s5, s6⟩ := st
  obtain ⟨h1, h2, h3, h4, h5, h6⟩ := h
  refine ⟨h1.far hg ?_, Sl.apart h2 hg ?_, h3.far hg ?_, Rw.apart h4 hg ?_, h5.far hg ?_, h6.grown hg h6.size ?_⟩
  · intro e; have := hr _ e; omega
  · intro k hk e; have := hr _ e; have := s5 k hk; omega
  · intro e; have := hr _ e; omega
  · intro k hk e; have := hr _ e; have := s6 k hk; omega
  · intro e; have := hr _ e; omega
  · intro k e; have := hr _ e; omega
theorem Env.put5 (h : Env xs L l g1 g4 g5 O o B ov out w0 w) (st : Stc xs L g1 g4 g5 O B w0) (u : Value) : Env xs L l g1 g4 g5 O o B u out w0 (w.setCell ⟨g5, 0, none⟩ u) := by
  obtain ⟨s1, s2, s3, s4, s5, s6⟩ := st
  obtain ⟨h1, h2, h3, h4, h5, h6⟩ := h
  have hg := setg w g5 0 u
  refine ⟨h1.far hg ?_, Sl.apart h2 hg ?_, h3.far hg ?_, Rw.apart h4 hg ?_, h5.put, h6.grown hg h6.size ?_⟩
  · intro e; injection e with e; omega
  · intro k hk e; injection e with e; have := s5 k hk; omega
  · intro e; injection e with e; omega
  · intro k hk e; injection e with e; have := s6 k hk; omega
  · intro k e; injection e with e; omega
theorem Env.putO {i : Nat} (h : Env xs L l g1 g4 g5 O o B ov out w0 w) (st : Stc xs L g1 g4 g5 O B w0) (hl : out.length = xs.length) (hi : i < out.length) :
    ∃ g, O = some ⟨g, 0, none⟩ ∧ g < g4 ∧ (∃ u, w.cell? ⟨g, i * 4, none⟩ = some u) ∧ w.frozen? ⟨g, i * 4, none⟩ = false ∧
      ∀ v : Int, Env xs L l g1 g4 g5 O o B ov (out.set i (v, out[i].2)) w0 (w.setCell ⟨g, i * 4, none⟩ (.int .i64 v)) ∧ w.grownBy (w.setCell ⟨g, i * 4, none⟩ (.int .i64 v)) (some g) := by
  obtain ⟨s1, s2, s3, s4, s5, s6⟩ := st
  obtain ⟨h1, h2, h3, h4, h5, h6⟩ := h
  have hr : RwL w B O o out := by unfold RwL; rw [hl]; exact h4
  obtain ⟨g, e, hB, hgl, p0, f0, hp⟩ := hr.put hi
  have hg4 : g < g4 := (s6 g (by rw [e]; exact rowOf_some (by omega))).2
  refine ⟨g, e, hg4, p0, f0, fun v => ?_⟩
  obtain ⟨q1, q2⟩ := hp v
  unfold RwL at q1
  rw [List.length_set, hl] at q1
  refine ⟨⟨h1.far q2 ?_, Sl.apart h2 q2 ?_, h3.far q2 ?_, q1, h5.far q2 ?_, h6.grown q2 h6.size ?_⟩, q2⟩
  · intro e; injection e with e; omega
  · intro k hk e; injection e with e; have := s5 k hk; omega
  · intro e; injection e with e; omega
  · intro e; injection e with e; omega
  · intro k e; injection e with e; omega
end
set_option maxRecDepth 100000 in
set_option maxHeartbeats 1000000 in
theorem pkNo_any (L : Option Addr) (l : Nat) (xs : List Le) (w : World) (h : SlL w L l xs) (hv : VL xs = false) :
    Calls Try.prog 5 #[.slice L xs.length l] w fun e w' => e = .returned (.tuple #[.slice none 0 0, .bool false]) ∧ Below w.heap.size w w' := by
  have hb0 : Below w.heap.size w (w.alloc (.cells #[.slice L xs.length l] 23)) := ext_alloc (Below.refl _ _) _
  have HV := hd (vl_any L l xs _ (h.ext hb0))
  rw [hv] at HV
  clear h hv
  go_enter Try.func5, Try.ntmps5
  go_wp2_with fail
  refine HV.out.mono ?_
  rintro e w1 ⟨rfl, hx⟩
  have HX := hd (ext_trans hb0 hx)
  clear hx
  go_wp2
  go_ret2
  exact ⟨rfl, HX.out⟩
set_option maxRecDepth 100000 in
set_option maxHeartbeats 4000000 in
theorem pk_any (L : Option Addr) (l : Nat) (xs : List Le) (w : World) (h : SlL w L l xs) (hv : VL xs = true) (hn0 : 0 < xs.length) :
    Calls Try.prog 5 #[.slice L xs.length l] w fun e w' => ∃ os, Ord xs os ∧ PkR xs os w e w' := by
  have h12 := vl_len hv
  have HV := hd (fun W s => vl_any L l xs W s)
  rw [hv] at HV
  have hmaxl := Sl.max h
  have hcapl := Sl.cap h
  unfold maxLen at hmaxl
  have hLr := Sl.row h
  obtain ⟨W0, hW0⟩ : ∃ W0, W0 = w.alloc (.cells #[.slice L xs.length l] 23) := ⟨_, rfl⟩
  have hb0 : Below w.heap.size w W0 := by rw [hW0]; exact ext_alloc (Below.refl _ _) _
  have v1 : Vx 23 W0 w.heap.size (.slice L xs.length l) := by rw [hW0]; exact Vx.new _ _ _
  have s1 := h.ext hb0
  have c1 := v1.c
  have HF := hd (And.intro v1 (And.intro s1 (And.intro hb0 hLr)))
  clear hv h v1 hb0 hLr
  go_enter Try.func5, Try.ntmps5
  go_upto_region 1 with fail
  rw [← hW0]
  clear hW0
  go_wp2_with fail
  refine (HV.out _ s1).mono ?_
  rintro e w1 ⟨rfl, hx⟩
  replace HF := hd (And.intro (HF.out.1.ext hx) (And.intro (HF.out.2.1.ext hx) (And.intro (ext_trans HF.out.2.2.1 hx) HF.out.2.2.2)))
  clear hx s1 c1
  have c1 := HF.out.1.c
  have s1 := HF.out.2.1
  go_wp2_with fail
  refine (cloneL_any L l xs _ s1 (by omega)).mono ?_
  rintro e w2 ⟨O, o, rfl, hr, hx⟩
  have hw1 : w.heap.size < w1.heap.size := HF.out.1.lt
  have hw2 := hx.size
  have HR := hd hr
  replace HF := hd (And.intro (HF.out.1.ext hx) (And.intro (HF.out.2.1.ext hx) (And.intro (ext_trans HF.out.2.2.1 hx) HF.out.2.2.2)))
  clear hx s1 c1 hr
  go_upto_region 5 with fail
  obtain ⟨W5, hW5⟩ : ∃ W5, W5 = (w2.alloc (.cells #[.slice O xs.length o] 23)).alloc (.cells #[.slice none 0 0] 37) := ⟨_, rfl⟩
  have hx : Below w2.heap.size w2 W5 := by rw [hW5]; exact ext_alloc (ext_alloc (Below.refl _ _) _) _
  have b4 : Vx 23 W5 w2.heap.size (.slice O xs.length o) := by rw [hW5]; exact (Vx.new _ _ _).alloc _
  have b5 : Vx 37 W5 (w2.heap.size + 1) (.slice none 0 0) := by
    have := Vx.new 37 (w2.alloc (.cells #[.slice O xs.length o] 23)) (.slice none 0 0)
    rw [World.size_alloc] at this
    rw [hW5]
    exact this
  have HRO := hd (fun k hk => Rw.row HR.out k hk)
  have ST0 : Stc xs L w.heap.size w2.heap.size (w2.heap.size + 1) O w1.heap.size w := ⟨Nat.le_refl _, hw1, hw2, by omega, HF.out.2.2.2, HRO.out⟩
  have EN0 : Env xs L l w.heap.size w2.heap.size (w2.heap.size + 1) O o w1.heap.size (.slice none 0 0) xs w W5 := ⟨HF.out.1.ext hx, HF.out.2.1.ext hx, b4, Rw.ext HR.out hx, b5, ext_trans HF.out.2.2.1 hx⟩
  rw [← hW5]
  clear hW5 hx b4 b5 HRO
  obtain ⟨g1, hg1⟩ : ∃ g, g = w.heap.size := ⟨_, rfl⟩
  obtain ⟨g4, hg4⟩ : ∃ g, g = w2.heap.size := ⟨_, rfl⟩
  obtain ⟨g5, hg5⟩ : ∃ g, g = g4 + 1 := ⟨_, rfl⟩
  have ST : Hid (Stc xs L g1 g4 g5 O w1.heap.size w) := hd (by rw [hg5, hg4, hg1]; exact ST0)
  have EN : Hid (Env xs L l g1 g4 g5 O o w1.heap.size (.slice none 0 0) xs w W5) := hd (by rw [hg5, hg4, hg1]; exact EN0)
  obtain ⟨B, hB⟩ : ∃ B, B = w1.heap.size := ⟨_, rfl⟩
  rw [← hB] at ST EN
  have HG := hd hg1
  rw [← hg4, ← hg5, ← hg1]
  clear EN0 ST0 HR HF hg4 hg5 hg1 hw1 hw2 hB
  have c1 := EN.out.1.c
  go_wp2_with fail
  go_loopw [6, 18] (fun _ i wr => ∃ (k : Nat) (v : Value), k ≤ xs.length ∧ i = .int .i64 k ∧ wr.ownsRow (g5 + 1) 3 1 v k (ci (ni (List.range k))) ∧ Hid (Env xs L l g1 g4 g5 O o B v xs w wr)) (fun _ i _ => xs.length - (intOf i).toNat)
  case atStart => exact ⟨0, _, by omega, rfl, ⟨rfl, .inl ⟨rfl, rfl⟩⟩, EN.out⟩
  case round =>
    clear EN c1
    obtain ⟨k, v, hk, rfl, hown, EN⟩ := hrel
    have c5 := EN.out.2.2.2.2.1.c
    have hz5 := EN.out.2.2.2.2.1.lt
    by_cases hlt : k < xs.length
    · go_wp2_with (at_builtin; refine wpList_app eltI (.tmp 21) (.tmp 23) (news := ci [(k : Int)]) (m := 1) hown rfl (ci_one _) (by omega) (by omega) (by omega) rfl rfl rfl rfl ?_; intro v' w8 hown8 hg8; obtain ⟨D', d', e', -, -⟩ := Sl.of_own hown8; subst e'; have EN8 := hd (Env.row EN.out ST.out hg8 (fun j hj => by have := own_ge hown j hj; omega)); have d5 := EN8.out.2.2.2.2.1.c; have f5 := EN8.out.2.2.2.2.1.free)
      go_roundw
      case rel =>
        refine ⟨k + 1, _, by omega, by go_num, own_far (by rw [List.range_succ, ni_append, ci_append]; exact hown8) (setg w8 g5 0 _) (by omega), EN8.out.put5 ST.out _⟩
      case measure => simp [intOf]; omega
    · obtain rfl : k = xs.length := by omega
      obtain ⟨gO, c, rfl, hgO, hgl, hcn, hcm⟩ := own_some' hown hn0
      have hRI : RwI wr (g5 + 1) (some ⟨gO, 0, none⟩) c (ni (List.range xs.length)) := by
        obtain ⟨A2, c2, e2, hr2⟩ := rwI_of_own hown rfl (by rw [ni_len, List.length_range])
        injection e2 with e2 _ e3
        subst e2 e3
        exact hr2
      obtain ⟨wb, hwb⟩ : ∃ x, x = wr := ⟨_, rfl⟩
      have HS := hd (stable_any xs L l g1 (g5 + 1) gO c wr h12 hn0 (by have := ST.out.2.1; have := ST.out.2.2.1; have := ST.out.2.2.2.1; omega) (fun k hk => by have := ST.out.2.2.2.2.1 k hk; have := ST.out.1; have := ST.out.2.1; have := ST.out.2.2.1; have := ST.out.2.2.2.1; omega) ⟨hRI, EN.out.1, EN.out.2.1, World.grownBy.refl _ _⟩)
      rw [← hwb] at HS EN c5 ⊢
      clear hown hRI hgl hwb
      go_wp2_with fail
      refine HS.out.mono ?_
      rintro e w7 ⟨rfl, os, hos, hsr⟩
      have HO := hd hos
      have hos' := hd hos
      have hol := hos.len
      have EN7 := hd (Env.row EN.out ST.out hsr.2.2.2 (fun j hj => by injection hj with hj; omega))
      have HRI := hd hsr.1
      clear hos hsr HS c5 EN
      have c5 := EN7.out.2.2.2.2.1.c
      go_wp2_with fail
      have HPS := hd (fun p (hp : p ∈ os) => hos'.out.lt hp)
      clear HG
      go_loopw [7, 8, 9, 10, 31] (fun _ _ _ _ i wr => ∃ (k : Nat), k ≤ xs.length ∧ i = .int .i64 k ∧ Hid (RwI wr (g5 + 1) (some ⟨gO, 0, none⟩) c (ni os)) ∧ Hid (Env xs L l g1 g4 g5 O o B (.slice (some ⟨gO, 0, none⟩) xs.length c) (pk xs os k) w wr)) (fun _ _ _ _ i _ => xs.length - (intOf i).toNat)
      case atStart => exact ⟨0, by omega, rfl, HRI.out, EN7.out⟩
      case round =>
        clear HRI EN7 c5
        obtain ⟨k, hk, rfl, HRI, EN⟩ := hrel
        obtain ⟨wa, hwa⟩ : ∃ x, x = wr := ⟨_, rfl⟩
        rw [← hwa] at HRI EN ⊢
        clear hwa
        by_cases hlt : k < xs.length
        · have hko : k < os.length := by omega
          obtain ⟨i, hi⟩ : ∃ i, i = os[k] := ⟨_, rfl⟩
          have hck := HRI.out.cellN (show os[k]? = some i by rw [hi]; exact List.getElem?_eq_getElem hko)
          have hil : i < xs.length := by rw [hi]; exact HO.out.lt' hko
          have HI := hd hi
          clear hi
          go_upto_region 14 with fail
          obtain ⟨W7, hW7⟩ : ∃ W7, W7 = (wa.alloc (.cells #[.int .i64 (k : Int)] 3)).alloc (.cells #[.int .i64 (i : Int)] 3) := ⟨_, rfl⟩
          have hx : Below wa.heap.size wa W7 := by rw [hW7]; exact ext_alloc (ext_alloc (Below.refl _ _) _) _
          have b7 : Vx 3 W7 wa.heap.size (.int .i64 (k : Int)) := by rw [hW7]; exact (Vx.new _ _ _).alloc _
          have b8 : Vx 3 W7 (wa.heap.size + 1) (.int .i64 (i : Int)) := by
            have := Vx.new 3 (wa.alloc (.cells #[.int .i64 (k : Int)] 3)) (.int .i64 (i : Int))
            rw [World.size_alloc] at this
            rw [hW7]
            exact this
          have H7 := hd (And.intro b7 (And.intro b8 (And.intro (EN.out.ext hx) (HRI.out.ext hx))))
          rw [← hW7]
          clear hW7 hx b7 b8 EN HRI hck
          obtain ⟨g7, hg7⟩ : ∃ g, g = wa.heap.size := ⟨_, rfl⟩
          obtain ⟨g8, hg8⟩ : ∃ g, g = g7 + 1 := ⟨_, rfl⟩
          rw [← hg7, ← hg8] at H7
          rw [← hg7, ← hg8]
          clear hg7 hg8
          go_wp2_with fail
          go_loopw [10] (fun cv wr => ∃ (n : Nat), cv = .int .i64 (n : Int) ∧ Hid (n ≤ lfr (pk xs os k) (os.take k) (gt xs i).2.2.1 (gt xs i).2.2.2) ∧ n ≤ 12 ∧ Below W7.heap.size W7 wr) (fun cv _ => 13 - (intOf cv).toNat)
          case atStart => exact ⟨0, rfl, Nat.zero_le _, by omega, Below.refl _ _⟩
          case round =>
            obtain ⟨n, rfl, HN, hn, hb⟩ := hrel
            have HBN := hd hb
            have e1 := hd (H7.out.2.2.1.ext hb)
            have e2 := hd (H7.out.2.2.2.ext hb)
            have hpl : i < (pk xs os k).length := by rw [pk_len]; exact hil
            have HT0 := pl2_any (some ⟨gO, 0, none⟩) c xs.length k os O o g5 g7 g4 g8 i (n : Int) (pk xs os k) wr hol.symm e1.out.2.2.2.2.1 e2.out.sl (hd fun p hp => by rw [pk_len]; exact HPS.out p hp) (by omega) (H7.out.1.ext hb) (by rw [pk_len]; exact e1.out.2.2.1) (by unfold SlL; rw [pk_len]; exact e1.out.2.2.2.1.1) (H7.out.2.1.ext hb) hpl
            rw [pk_rest HO.out k (by omega) i] at HT0
            have HT := hd HT0
            clear HT0 hb
            cases htk : tkB (pk xs os k) (os.take k) (n : Int) (gt xs i).2.2.1 (gt xs i).2.2.2 with
            | true =>
              have HN' := hd (lfr_more HN.out htk)
              have hn' : n + 1 ≤ 12 := by
                have h1 := HN'.out
                have h2 := lfr_len (pk xs os k) (os.take k) (gt xs i).2.2.1 (gt xs i).2.2.2
                rw [List.length_take] at h2
                omega
              rw [htk] at HT
              clear htk
              go_wp2_with (go_at_call 16; refine HT.out.mono ?_; rintro e w8 ⟨rfl, hx⟩)
              go_roundw
              case rel => exact ⟨n + 1, by go_num, HN', hn', ext_trans HBN.out hx⟩
              case measure => simp [intOf]; omega
            | false =>
              have HN' := hd (lfr_end HN.out htk)
              rw [htk] at HT
              clear htk e1 e2
              go_wp2_with fail
              refine HT.out.mono ?_
              rintro e w8 ⟨rfl, hx⟩
              have hx8 := ext_trans HBN.out hx
              have e8 := hd (H7.out.2.2.1.ext hx8)
              have r8 := hd (H7.out.2.2.2.ext hx8)
              have c8 := (H7.out.2.1.ext hx8).c
              have c4 := e8.out.2.2.1.c
              clear hx hx8
              obtain ⟨g, e, hgg, ⟨z0, p0⟩, f0, hp⟩ := e8.out.putO ST.out (pk_len _ _ _) hpl
              subst e
              have HP := hd (hp n)
              have hog := e8.out.2.2.2.1.1.cap
              have hom := e8.out.2.2.2.1.1.max
              unfold maxLen at hom
              clear hp
              have hiz : (i : Int) < (xs.length : Int) := by omega
              go_wp2_with fail
              go_roundw
              case rel =>
                have q1 := HP.out.1
                rw [pk_set HO.out hko HI.out.symm hpl HN'.out] at q1
                exact ⟨k + 1, by omega, by go_num, Rw.apart r8.out HP.out.2 (fun j hj e => by
                  injection e with e
                  have h1 := ST.out.2.2.2.1
                  have h2 : j = gO := by
                    unfold rowOf at hj
                    split at hj
                    · cases hj
                    · injection hj with hj; exact hj.symm
                  omega), q1⟩
              case measure => simp [intOf]; omega
        · obtain rfl : k = xs.length := by omega
          have c4 := EN.out.2.2.1.c
          have HE := hd (show SlL wa O o (PK xs os) by
            have := EN.out.2.2.2.1.1
            unfold SlL
            rw [PK_len]
            exact this)
          have HB := hd EN.out.2.2.2.2.2
          go_wp2_with fail
          go_ret2
          exact ⟨os, HO.out, O, o, rfl, HE.out, HB.out⟩
end Go.Proofs.Ytkkikpmelpjllaa
