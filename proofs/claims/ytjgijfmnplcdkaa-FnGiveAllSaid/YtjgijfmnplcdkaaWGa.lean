/- Contracts on shares: GiveAll of both. -/
import Derived.Test.YtjgijfmnplcdkaaWSc
import Derived.Test.YtjgijfmnplcdkaaWSg
import Derived.Test.YtjgijfmnplcdkaaWDl
import Derived.Test.YtjgijfmnplcdkaaPGa
namespace Go.Proofs.Ytjgijfmnplcdkaa
open Go.RowKit
theorem gaNil {zs : List Int} {w w' : World} (h : zs = []) (hb : Below w.heap.size w w') : NewI zs w (.returned (.slice none 0 0)) w' := by
  subst h; exact ⟨none, 0, rfl, rwI_nil _ _ _ _ (by decide), hb⟩
theorem GALL_no {t : Int} {xs ys asks : List Int} (h : askB t xs ys asks = false) : GALL t xs ys asks = [] := if_neg (by rw [h]; simp)
theorem GALL_ok {t : Int} {xs ys asks : List Int} (h : askB t xs ys asks = true) : GALL t xs ys asks = GA t xs asks.length ys asks := if_pos h
/-- The memory of GiveAll in a round: the row handed back, the asks left, the share in its block, its lists. -/
structure GaS (w wr : World) (t : Int) (xs zs lf us : List Int) (F : Option Addr) (f : Nat) (v : Value) (A : Option Addr) (c : Nat) (B : Option Addr) (d : Nat) : Prop where
  own : wr.ownsRow w.heap.size 3 1 v us.length (ci us)
  fl : RwI wr w.heap.size F f lf
  bx : Bx wr w.heap.size (.int .i64 t) (.slice A xs.length c) (.slice B zs.length d)
  sx : SlI wr A c xs
  sy : SlI wr B d zs
  vl : ∀ j, v.ownBlock = some j → rowOf F lf.length ≠ some j
  vb : ∀ j, v.ownBlock = some j → j ≠ w.heap.size
  lb : ∀ j, rowOf F lf.length = some j → j ≠ w.heap.size
  xo : ∀ j, rowOf A xs.length = some j → v.ownBlock ≠ some j ∧ rowOf F lf.length ≠ some j ∧ j ≠ w.heap.size
  yo : ∀ j, rowOf B zs.length = some j → v.ownBlock ≠ some j ∧ rowOf F lf.length ≠ some j ∧ j ≠ w.heap.size
  be : Below w.heap.size w wr
def lenOf : Value → Nat | .slice _ n _ => n | _ => 0
theorem rowOf_less {F : Option Addr} {m n : Nat} (h : m ≤ n) {j : Nat} (hj : rowOf F m = some j) : rowOf F n = some j := by
  unfold rowOf at hj ⊢
  split at hj
  · cases hj
  · rw [if_neg (by omega)]; exact hj
section
variable {w wr w' : World} {t : Int} {xs zs lf us : List Int} {F : Option Addr} {f : Nat} {v : Value} {A : Option Addr} {c : Nat} {B : Option Addr} {d : Nat}
theorem GaS.ext (h : GaS w wr t xs zs lf us F f v A c B d) (hx : Below wr.heap.size wr w') : GaS w w' t xs zs lf us F f v A c B d :=
  ⟨own_ext h.own hx, h.fl.ext hx, h.bx.ext hx, h.sx.ext hx, h.sy.ext hx, h.vl, h.vb, h.lb, h.xo, h.yo, ext_trans h.be hx⟩
theorem GaS.app (h : GaS w wr t xs zs lf us F f v A c B d) {v' : Value} {a : Int} (ho : w'.ownsRow w.heap.size 3 1 v' (us.length + 1) (ci us ++ ci [a])) (hg : wr.grownBy w' v.ownBlock) (hv : v'.ownBlock = v.ownBlock ∨ ∃ g, v'.ownBlock = some g ∧ wr.heap.size ≤ g) :
    GaS w w' t xs zs lf (us ++ [a]) F f v' A c B d := by
  have hl := h.bx.lt
  refine ⟨by rw [ci_append, List.length_append]; exact ho, Rw.apart h.fl hg (fun j hj e => h.vl j e hj), ?_, Sl.apart h.sx hg (fun j hj e => (h.xo j hj).1 e), Sl.apart h.sy hg (fun j hj e => (h.yo j hj).1 e), ?_, ?_, h.lb, ?_, ?_, ?_⟩
  · exact (hg.block _ hl (fun e => h.vb _ e.symm rfl)).trans h.bx
  · intro j hj hj'
    rcases hv with e | ⟨g, e, hge⟩
    · exact h.vl j (e ▸ hj) hj'
    · rw [e] at hj; injection hj with hj
      have := (Rw.row h.fl j hj').2
      omega
  · intro j hj
    rcases hv with e | ⟨g, e, hge⟩
    · exact h.vb j (e ▸ hj)
    · rw [e] at hj; injection hj with hj; omega
  · intro j hj
    refine ⟨fun hj' => ?_, (h.xo j hj).2⟩
    rcases hv with e | ⟨g, e, hge⟩
    · exact (h.xo j hj).1 (e ▸ hj')
    · rw [e] at hj'; injection hj' with hj'
      have := Sl.row h.sx j hj
      omega
  · intro j hj
    refine ⟨fun hj' => ?_, (h.yo j hj).2⟩
    rcases hv with e | ⟨g, e, hge⟩
    · exact (h.yo j hj).1 (e ▸ hj')
    · rw [e] at hj'; injection hj' with hj'
      have := Sl.row h.sy j hj
      omega
  · exact h.be.grown hg h.be.size (fun j e => (h.own.lt j e).1)
/-- The share given, stored back. -/
theorem GaS.put (h : GaS w wr t xs zs lf us F f v A c B d) (hx : Below wr.heap.size wr w') {P : Option Addr} {p : Nat} {R : Option Addr} {q : Nat} {zs' : List Int} (rP : RwI w' wr.heap.size P p xs) (rQ : RwI w' wr.heap.size R q zs') :
    GaS w (((w'.setCell ⟨w.heap.size, 0, none⟩ (.int .i64 t)).setCell ⟨w.heap.size, 1, none⟩ (.slice P xs.length p)).setCell ⟨w.heap.size, 2, none⟩ (.slice R zs'.length q)) t xs zs' lf us F f v P p R q := by
  have h' := h.ext hx
  have hs := set3_grown0 w' w.heap.size (.int .i64 t) (.slice P xs.length p) (.slice R zs'.length q)
  have hl := h.bx.lt
  have hbx := h'.bx
  refine ⟨own_apart h'.own hs (fun k hk e => by injection e with e; exact h.vb k hk e.symm), Rw.apart h'.fl hs (fun j hj e => by injection e with e; exact h.lb j hj e.symm), ?_, Sl.apart rP.sl hs ?_, Sl.apart rQ.sl hs ?_, h.vl, h.vb, h.lb, ?_, ?_, h'.be.grown hs h'.be.size (fun j e => by injection e with e; omega)⟩
  · unfold Bx at hbx ⊢
    simp [World.setCell, Array.getElem?_modify, hbx]
  · intro j hj e
    injection e with e
    have := (Rw.row rP j hj).1
    omega
  · intro j hj e
    injection e with e
    have := (Rw.row rQ j hj).1
    omega
  · intro j hj
    have hj1 := (Rw.row rP j hj).1
    refine ⟨fun e => ?_, fun e => ?_, by omega⟩
    · have := (h.own.lt j e).2; omega
    · have := (Rw.row h.fl j e).2; omega
  · intro j hj
    have hj1 := (Rw.row rQ j hj).1
    refine ⟨fun e => ?_, fun e => ?_, by omega⟩
    · have := (h.own.lt j e).2; omega
    · have := (Rw.row h.fl j e).2; omega
/-- An ask struck in its block. -/
theorem GaS.del (h : GaS w wr t xs zs lf us F f v A c B d) {lf' : List Int} (hl : lf'.length ≤ lf.length) (hr : RwI w' w.heap.size F f lf') (hg : wr.grownBy w' (rowOf F lf.length)) :
    GaS w w' t xs zs lf' us F f v A c B d :=
  ⟨own_apart h.own hg (fun k hk e => h.vl k hk e), hr, (hg.block _ h.bx.lt (fun e => h.lb _ e.symm rfl)).trans h.bx, Sl.apart h.sx hg (fun j hj e => (h.xo j hj).2.1 e), Sl.apart h.sy hg (fun j hj e => (h.yo j hj).2.1 e),
    fun j hj e => h.vl j hj (rowOf_less hl e), h.vb, fun j hj => h.lb j (rowOf_less hl hj), fun j hj => ⟨(h.xo j hj).1, fun e => (h.xo j hj).2.1 (rowOf_less hl e), (h.xo j hj).2.2⟩, fun j hj => ⟨(h.yo j hj).1, fun e => (h.yo j hj).2.1 (rowOf_less hl e), (h.yo j hj).2.2⟩,
    h.be.grown hg h.be.size (fun j e => (Rw.row h.fl j e).1)⟩
/-- Other asks, in new memory. -/
theorem GaS.left (h : GaS w wr t xs zs lf us F f v A c B d) (hx : Below wr.heap.size wr w') {lf' : List Int} {F' : Option Addr} {f' : Nat} (hr : RwI w' wr.heap.size F' f' lf') : GaS w w' t xs zs lf' us F' f' v A c B d := by
  have h' := h.ext hx
  have hl := h.bx.lt
  refine ⟨h'.own, hr.low h.be.size, h'.bx, h'.sx, h'.sy, fun j hj e => ?_, h.vb, fun j hj => ?_, fun j hj => ⟨(h.xo j hj).1, fun e => ?_, (h.xo j hj).2.2⟩, fun j hj => ⟨(h.yo j hj).1, fun e => ?_, (h.yo j hj).2.2⟩, h'.be⟩
  · have := (Rw.row hr j e).1; have := (h.own.lt j hj).2; omega
  · have := (Rw.row hr j hj).1; omega
  · have := (Rw.row hr j e).1; have := Sl.row h.sx j hj; omega
  · have := (Rw.row hr j e).1; have := Sl.row h.sy j hj; omega
end
theorem gaS_start {w W0 wr : World} {t : Int} {xs ys lf : List Int} {A : Option Addr} {c : Nat} {B : Option Addr} {d : Nat} {F : Option Addr} {f : Nat} {v : Value} (hb0 : Below w.heap.size w W0) (hW : w.heap.size < W0.heap.size) (hx : Below W0.heap.size W0 wr) (h : SlI w A c xs) (h' : SlI w B d ys)
    (hbx : Bx wr w.heap.size (.int .i64 t) (.slice A xs.length c) (.slice B ys.length d)) (hr : RwI wr W0.heap.size F f lf) (ho : wr.ownsRow w.heap.size 3 1 v 0 (ci [])) (hv : ∀ j, v.ownBlock = some j → w.heap.size < j ∧ rowOf F lf.length ≠ some j) :
    GaS w wr t xs ys lf [] F f v A c B d := by
  have hb := hb0.trans (hx.mono hb0.size)
  refine ⟨ho, hr.low hb0.size, hbx, h.ext hb, h'.ext hb, fun j hj => (hv j hj).2, fun j hj => by have := (hv j hj).1; omega, fun j hj => ?_, fun j hj => ?_, fun j hj => ?_, hb⟩
  · have := (Rw.row hr j hj).1; omega
  · have hl := Sl.row h j hj
    exact ⟨fun e => by have := (hv j e).1; omega, fun e => by have := (Rw.row hr j e).1; omega, by omega⟩
  · have hl := Sl.row h' j hj
    exact ⟨fun e => by have := (hv j e).1; omega, fun e => by have := (Rw.row hr j e).1; omega, by omega⟩
set_option maxRecDepth 100000 in
set_option maxHeartbeats 4000000 in
theorem ga_any (t : Int) (A : Option Addr) (c : Nat) (xs : List Int) (B : Option Addr) (d : Nat) (ys : List Int) (E : Option Addr) (f : Nat) (asks : List Int) (w : World) (h : SlI w A c xs) (h' : SlI w B d ys) (ha : SlI w E f asks) :
    Calls Try.prog 7 #[.agg #[.int .i64 t, .slice A xs.length c, .slice B ys.length d], .slice E asks.length f] w (NewI (GALL t xs ys asks) w) := by
  have hmaxa := ha.max
  have hcapa := ha.cap
  unfold maxLen at hmaxa
  obtain ⟨W0, hW0⟩ : ∃ W0, W0 = w.alloc (.cells #[.int .i64 t, .slice A xs.length c, .slice B ys.length d] 25) := ⟨_, rfl⟩
  have hb0 : Below w.heap.size w W0 := by rw [hW0]; exact ext_alloc (Below.refl _ _) _
  have hx0 : Bx W0 w.heap.size (.int .i64 t) (.slice A xs.length c) (.slice B ys.length d) := by rw [hW0]; exact Bx.new w _ _ _
  have s0 := h.ext hb0
  have s0' := h'.ext hb0
  have sa := ha.ext hb0
  have b0 := hx0.c0
  have b1 := hx0.c1
  have b2 := hx0.c2
  have hlt0 := hx0.lt
  have HX0 := hd hx0
  have HB0 := hd hb0
  have HH := hd (And.intro h h')
  clear hb0 hx0 h h' ha
  cases hq : askB t xs ys asks with
  | false =>
    have HR := hd (GALL_no hq)
    go_enter Try.func7, Try.ntmps7
    go_wp2_with fail
    rw [← hW0]
    clear hW0
    refine (asked_any _ _ _ _ _ _ _ _ _ _ _ s0 s0' sa).mono ?_
    rintro e w1 ⟨rfl, hx⟩
    rw [hq]
    go_wp2
    go_ret
    exact gaNil HR.out (HB0.out.trans (hx.mono HB0.out.size))
  | true =>
    obtain ⟨hv, hl12, hql⟩ := askB_iff hq
    have HR := hd (GALL_ok hq)
    have HV := hd hv
    have HQ := hd hql
    go_enter Try.func7, Try.ntmps7
    go_wp2_with fail
    rw [← hW0]
    clear hW0
    refine (asked_any _ _ _ _ _ _ _ _ _ _ _ s0 s0' sa).mono ?_
    rintro e w1 ⟨rfl, hx⟩
    rw [hq]
    clear hq hv hql
    have sa1 := sa.ext hx
    have HX := hd hx
    clear hx sa s0 s0' b0 b1 b2
    go_wp2_with fail
    refine (cloneI0_any E f asks _ sa1 (by omega)).mono ?_
    rintro e w2 ⟨F, f', rfl, rF, hx⟩
    have S0 := gaS_start (v := .slice none 0 0) HB0.out hlt0 (ext_trans HX.out hx) HH.out.1 HH.out.2 (HX0.out.ext (ext_trans HX.out hx)) (rF.low HX.out.size) ⟨rfl, .inl ⟨rfl, rfl⟩⟩ (fun j hj => by cases hj)
    clear hx sa1 HX HX0 HB0 HH rF
    go_wp2_with fail
    go_loopw [5, 6, 7] (fun l o _ wr => ∃ (F : Option Addr) (f : Nat) (lf us zs : List Int) (A : Option Addr) (c : Nat) (B : Option Addr) (d : Nat), l = .slice F lf.length f ∧ lf.length + us.length = asks.length ∧ Hid (GALL t xs ys asks = us ++ GA t xs lf.length zs lf) ∧ Hid (VSh t xs zs = true) ∧ Hid (allL lf 0 4 = true) ∧ GaS w wr t xs zs lf us F f o A c B d) (fun l _ _ _ => lenOf l)
    case atStart => exact ⟨F, f', asks, [], ys, A, c, B, d, rfl, rfl, HR.out, HV.out, HQ.out, S0⟩
    case round =>
      clear S0 HR HV HQ
      obtain ⟨F, f, lf, us, zs, A, c, B, d, rfl, hls, HG, HV, HQ, S⟩ := hrel
      have b0 := S.bx.c0
      have b1 := S.bx.c1
      have b2 := S.bx.c2
      go_wp2_with fail
      refine (next_any t A c xs B d zs F f lf wr S.sx S.sy S.fl.sl HV.out HQ.out).mono ?_
      rintro e w3 ⟨rfl, hx⟩
      replace S := S.ext hx
      clear hx b0 b1 b2
      rcases NX_cases t xs zs lf with e | ⟨j, G⟩
      · rw [e]
        have HE := hd (show GALL t xs ys asks = us by rw [HG.out, GA_stop (by rw [e]; decide), List.append_nil])
        obtain ⟨P, p, rfl, r⟩ := rwI_of_own S.own rfl rfl
        have r1 := r.sl.cap
        have r2 := r.sl.max
        clear e HG
        go_wp2_with fail
        refine (clipI_any _ _ _ _ r1 r2).mono ?_
        rintro e w4 ⟨rfl, rfl⟩
        go_wp2
        go_ret
        rw [HE.out]
        exact ⟨P, us.length, rfl, Rw.clip r, S.be⟩
      · rw [G.nx]
        have hj := G.lt
        obtain ⟨hv', hAD⟩ := G.give HV.out HQ.out
        have HN := hd (HG.out.trans (GA_next G))
        obtain ⟨zs', hzs'⟩ : ∃ zs', zs' = chg zs (at0 lf j).toNat 1 := ⟨_, rfl⟩
        rw [← hzs'] at hv' hAD HN
        have HV' := hd hv'
        have HQ' := hd (allL_erase HQ.out j)
        have gj : decide ((j : Int) < 0) = false := decide_eq_false (by omega)
        obtain ⟨ad, rfl, -, -⟩ := SlI.at S.fl.sl hj
        have a0 := SlI.atN S.fl.sl hj
        have HD := hd hAD
        clear hv' hAD hzs' HG HV HQ G
        go_wp2_with (at_builtin; refine wpList_app_at eltI _ _ (news := ci [at0 lf j]) (m := 1) S.own rfl (ci_one _) (by omega) (by omega) S.be.size (by rfl) (by rfl) (by rfl) (by rfl) ?_; intro v' w4 hown4 hg4 hv4)
        have S4 := S.app hown4 hg4 hv4
        clear S hown4 hg4 hv4 a0
        have S5 : GaS w w4.drew t xs zs lf (us ++ [at0 lf j]) (some ad) f v' A c B d := S4.ext (ext_drew (Below.refl _ _))
        have b0 := S4.bx.c0
        have b1 := S4.bx.c1
        have b2 := S4.bx.c2
        have a0 := SlI.atN S4.fl.sl hj
        have con := add_any t A c xs B d zs (at0 lf j) 1 w4.drew S5.sx S5.sy (by omega) (by omega)
        rw [HD.out] at con
        have CON := hd con
        have HS := hd S5
        clear con HD S4 S5
        go_cut [] (fun wx => ∃ P p R q, GaS w wx t xs zs' lf (us ++ [at0 lf j]) (some ad) f v' P p R q)
        case first =>
          go_region_with (first | ((with_reducible refine CON.out.mono ?_); rintro e w5 ⟨P, p, R, q, rfl, rP, rQ, -, hx⟩; have bx5 := HS.out.bx.ext hx; have z0 := bx5.c0; have z1 := bx5.c1; have z2 := bx5.c2; have y0 := bx5.free 0; have y1 := bx5.free 1; have y2 := bx5.free 2; have FIN := hd (HS.out.put hx rP rQ); clear bx5 hx rP rQ) | fail)
          all_goals (go_wp2_with fail; go_meet; exact ⟨P, p, R, q, FIN.out⟩)
        case rest =>
          obtain ⟨P, p, R, q, S6⟩ := hcut
          clear HS CON a0 b0 b1 b2
          go_wp2_with fail
          refine (delI_any w.heap.size (some ad) lf.length f lf j _ wc S6.fl rfl hj rfl).mono ?_
          rintro e w6 ⟨rfl, r6, hg6⟩
          have hel : (lf.eraseIdx j).length = lf.length - 1 := List.length_eraseIdx_of_lt hj
          have S7 := S6.del (by omega) r6 hg6
          clear S6 r6 hg6
          go_wp2
          go_roundw
          case rel => exact ⟨some ad, f, lf.eraseIdx j, us ++ [at0 lf j], zs', P, p, R, q, by rw [hel], by rw [hel, List.length_append]; simp; omega, HN, HV', HQ', S7⟩
          case measure => simp [lenOf]; omega
end Go.Proofs.Ytjgijfmnplcdkaa
