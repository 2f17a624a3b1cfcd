/- The walk of the exact law of ApplySettings. -/
import Derived.Test.YtabemhjbpnnlpaaExSs
import Derived.Test.YtabemhjbpnnlpaaWAp
import Derived.Test.YtabemhjbpnnlpaaWAi
namespace Go.Proofs.Ytabemhjbpnnlpaa
open Go.RowKit
/-- Settings and a flag, in new memory. -/
def NewSG (zs : List St) (b : Bool) (w : World) (r : Ending) (w' : World) : Prop :=
  ∃ A c, r = .returned (.tuple #[.slice A zs.length c, .bool b]) ∧ RwS w' w.heap.size 40 A c zs ∧ Below w.heap.size w w'
theorem appS_small (xs cs : List St) : ((appS xs cs).getD []).length ≤ 10 := by
  unfold appS
  split
  · exact buildL_len _ 10
  · exact Nat.zero_le _
set_option maxRecDepth 100000 in
set_option maxHeartbeats 2000000 in
theorem lawExactApplySettings (A : Option Addr) (c : Nat) (xs : List St) (L : Option Addr) (l : Nat) (ys : List St) (w : World) (h : SlS w A c xs) (h' : SlS w L l ys) :
    Calls Try.prog 12 #[.slice A xs.length c, .slice L ys.length l] w fun e w' => e = .returned (.bool true) ∧ Below w.heap.size w w' := by
  have hmax := h.max
  have hcap := h.cap
  have hmax' := h'.max
  have hcap' := h'.cap
  unfold maxLen at hmax hmax'
  by_cases hn : xs.length ≤ 1048576
  · obtain ⟨m, hm, hm1⟩ := lft_in hn
    have HL := hd hm
    clear hm
    rcases lft_two (k := m) (m := ys.length) hm1 with h2 | ⟨j, h2, hj, hi⟩
    · have H2 := hd h2
      clear h2
      go_enter Try.func12, Try.ntmps12
      go_wp2_with fail
      refine (szS_any A _ c 1048576 w (by omega) (by decide) (by decide)).mono ?_
      rintro e w' ⟨rfl, rfl⟩
      rw [HL.out]
      go_wp2_with fail
      refine (szS_any L _ l _ w (by omega) (by omega) (by omega)).mono ?_
      rintro e w' ⟨rfl, rfl⟩
      rw [H2.out]
      go_wp2
      go_ret
      exact ⟨rfl, Below.refl _ _⟩
    · have H3 := hd h2
      have hs0 := appS_small xs ys
      have AG : Hid (∀ P p U u w, SlS w P p xs → SlS w U u ys → Calls Try.prog 28 #[.slice P xs.length p, .slice U ys.length u] w (NewSG ((appS xs ys).getD []) (appS xs ys).isSome w)) := hd (fun P p U u w s s' => applySettings_any P U p u xs ys w s s')
      have SG : Hid (∀ P p U u w, SlS w P p xs → SlS w U u ys → Calls Try.prog 30 #[.slice P xs.length p, .slice U ys.length u] w (NewSG ((appS xs ys).getD []) (appS xs ys).isSome w)) := hd (fun P p U u w s s' => sApplySettings_any P U p u xs ys w s s')
      obtain ⟨zs, hzs⟩ : ∃ zs, zs = (appS xs ys).getD [] := ⟨_, rfl⟩
      obtain ⟨b, hbs⟩ : ∃ b, b = (appS xs ys).isSome := ⟨_, rfl⟩
      rw [← hzs] at hs0 AG SG
      rw [← hbs] at AG SG
      clear hzs hbs
      have gb : (b != b) = false := by simp
      have HS := hd (eqL_refl xs)
      have HI := hd (eqL_refl ys)
      have HZ := hd (eqL_refl zs)
      obtain ⟨k1, e1⟩ : ∃ k1, k1 = 1 + 2 * xs.length := ⟨_, rfl⟩
      obtain ⟨k2, e2⟩ : ∃ k2, k2 = k1 + 2 * ys.length := ⟨_, rfl⟩
      obtain ⟨n1, f1⟩ : ∃ n1, n1 = 1 + 2 * zs.length := ⟨_, rfl⟩
      have b1 : k1 ≤ 4611686018427387904 := by omega
      have b2 : k2 ≤ 4611686018427387904 := by omega
      have d1 : n1 ≤ 4611686018427387904 := by omega
      have gn : ((n1 : Int) != (n1 : Int)) = false := by simp
      have E := hd (And.intro e1 (And.intro e2 f1))
      have hb := Below.refl w.heap.size w
      clear h2 e1 e2 f1
      go_enter Try.func12, Try.ntmps12
      go_wp2_with fail
      refine (szS_any A _ c 1048576 w (by omega) (by decide) (by decide)).mono ?_
      rintro e w' ⟨rfl, rfl⟩
      rw [HL.out]
      go_wp2_with fail
      refine (szS_any L _ l _ w (by omega) (by omega) (by omega)).mono ?_
      rintro e w' ⟨rfl, rfl⟩
      rw [H3.out]
      go_wp2_with fail
      refine (toSS_any _ _ _ _ h hn).mono ?_
      rintro e w1 ⟨P, p, rfl, r, hx⟩
      have s := r.sl
      replace h := h.ext hx; replace h' := h'.ext hx; replace hb := ext_trans hb hx; clear hx r
      go_wp2_with fail
      refine (toSS_any _ _ _ _ h' hi).mono ?_
      rintro e w1 ⟨U, u, rfl, r, hx⟩
      have s' := r.sl
      replace h := h.ext hx; replace h' := h'.ext hx; replace s := s.ext hx; replace hb := ext_trans hb hx; clear hx r
      go_wp2_with fail
      refine (SG.out _ _ _ _ _ s s').mono ?_
      rintro e w1 ⟨K, kc, rfl, r, hx⟩
      have k := r.sl
      replace h := h.ext hx; replace h' := h'.ext hx; replace hb := ext_trans hb hx; clear hx r s s'
      have hb0 := hb
      have H2 := hd (And.intro hb0 (And.intro h (And.intro h' k)))
      obtain ⟨W2, hW2⟩ : ∃ W2, W2 = w1 := ⟨_, rfl⟩
      replace hb : Below W2.heap.size W2 w1 := by subst hW2; exact Below.refl _ _
      go_wp2_with fail
      refine (toSS_any _ _ _ _ h hn).mono ?_
      rintro e w2 ⟨X, x, rfl, rx, hx⟩
      rw [← hW2] at H2 rx
      clear hW2
      have NX := hd (fun g hg => Rw.row rx g hg)
      replace hb := ext_trans hb hx; replace h := h.ext hx; replace h' := h'.ext hx; replace k := k.ext hx; clear hx hb0
      have hw2 : W2.heap.size ≤ w2.heap.size := hb.size
      go_wp2_with fail
      refine (toSS_any _ _ _ _ h' hi).mono ?_
      rintro e w3 ⟨V, v, rfl, rv, hx⟩
      have NV := hd (fun g hg => Rw.row rv g hg)
      have s : SlS w2 X x xs := rx.sl
      have s' := rv.sl
      replace rx := Rw.ext rx hx; replace s := s.ext hx; replace hb := ext_trans hb hx; replace h := h.ext hx; replace h' := h'.ext hx; replace k := k.ext hx; have hw3 := hx.size; clear hx
      go_wp2_with fail
      refine (AG.out _ _ _ _ _ s s').mono ?_
      rintro e w4 ⟨G, g, rfl, rg, hx⟩
      have NG := hd (fun g hg => Rw.row rg g hg)
      replace rx := Rw.ext rx hx; replace rv := Rw.ext rv hx; replace s := s.ext hx; replace s' := s'.ext hx; replace hb := ext_trans hb hx; replace h := h.ext hx; replace h' := h'.ext hx; replace k := k.ext hx; have q := rg.sl; clear hx
      go_wp2_with fail
      refine (eqSS_any _ _ _ _ _ _ _ q k).mono ?_
      rintro e w5 ⟨rfl, hx⟩
      rw [HZ.out]
      replace s := s.ext hx; replace s' := s'.ext hx; replace h := h.ext hx; replace h' := h'.ext hx; replace rx := Rw.ext rx hx; replace rv := Rw.ext rv hx; replace rg := Rw.ext rg hx; replace hb := ext_trans hb hx; clear hx q k
      go_wp2_with fail
      refine (toSS_any _ _ _ _ h hn).mono ?_
      rintro e w6 ⟨Y, y, rfl, ry, hx⟩
      have q := ry.sl
      replace s := s.ext hx; replace s' := s'.ext hx; replace h' := h'.ext hx; replace rx := Rw.ext rx hx; replace rv := Rw.ext rv hx; replace rg := Rw.ext rg hx; replace hb := ext_trans hb hx; clear hx ry h
      go_wp2_with fail
      refine (eqSS_any _ _ _ _ _ _ _ s q).mono ?_
      rintro e w7 ⟨rfl, hx⟩
      rw [HS.out]
      replace s' := s'.ext hx; replace h' := h'.ext hx; replace rx := Rw.ext rx hx; replace rv := Rw.ext rv hx; replace rg := Rw.ext rg hx; replace hb := ext_trans hb hx; clear hx s q
      go_wp2_with fail
      refine (toSS_any _ _ _ _ h' hi).mono ?_
      rintro e w8 ⟨Y, y, rfl, ry, hx⟩
      have q := ry.sl
      replace s' := s'.ext hx; replace rx := Rw.ext rx hx; replace rv := Rw.ext rv hx; replace rg := Rw.ext rg hx; replace hb := ext_trans hb hx; clear hx ry h'
      go_wp2_with fail
      refine (eqSS_any _ _ _ _ _ _ _ s' q).mono ?_
      rintro e w9 ⟨rfl, hx⟩
      rw [HI.out]
      replace rx := Rw.ext rx hx; replace rv := Rw.ext rv hx; replace rg := Rw.ext rg hx; replace hb := ext_trans hb hx; clear hx s' q
      go_wp2_with fail
      refine (markSS_k W2.heap.size X x xs 1 k1 1 _ rfl E.out.1 b1 rx).mono ?_
      rintro e w10 ⟨rfl, -, hC⟩
      replace rv := Rw.apart rv hC (fun j hj e => by have := (NX.out _ e).2; have := (NV.out _ hj).1; omega)
      replace rg := Rw.apart rg hC (fun j hj e => by have := (NX.out _ e).2; have := (NG.out _ hj).1; omega)
      replace hb := hb.grown hC hb.size (fun g e => (NX.out g e).1)
      clear hC rx
      go_wp2_with fail
      refine (markSS_k w2.heap.size V v ys k1 k2 _ _ rfl E.out.2.1 b2 rv).mono ?_
      rintro e w11 ⟨rfl, -, hC⟩
      replace rg := Rw.apart rg hC (fun j hj e => by have := (NV.out _ e).2; have := (NG.out _ hj).1; omega)
      replace hb := hb.grown hC hb.size (fun g e => by have := (NV.out g e).1; omega)
      have k := H2.out.2.2.2.ext hb
      have q : SlS w11 G g zs := rg.1
      clear hC rv
      go_wp2_with fail
      refine (eqSS_any _ _ _ _ _ _ _ q k).mono ?_
      rintro e w12 ⟨rfl, hx⟩
      rw [HZ.out]
      replace rg := Rw.ext rg hx; replace hb := ext_trans hb hx; clear hx q k
      go_wp2_with fail
      refine (markSS_k w3.heap.size G g zs 1 n1 1 _ rfl E.out.2.2 d1 rg).mono ?_
      rintro e w13 ⟨rfl, mg, hC⟩
      replace hb := hb.grown hC hb.size (fun g e => by have := (NG.out g e).1; omega)
      replace mg : Sl w13 2 G (mkS zs.length 1).length g (cst (mkS zs.length 1)) := mg.1
      rw [mkS_len] at mg
      clear hC rg
      go_wp2_with fail
      refine (heldSS_k G zs.length g 1 n1 1 _ rfl E.out.2.2 d1 (slS_mk mg)).mono ?_
      rintro e w14 ⟨rfl, hx⟩
      replace mg := mg.ext hx; replace hb := ext_trans hb hx; clear hx
      have h := H2.out.2.1.ext hb; have h' := H2.out.2.2.1.ext hb
      go_wp2_with fail
      refine (toSS_any _ _ _ _ h hn).mono ?_
      rintro e w15 ⟨Y, y, rfl, ry, hx⟩
      have s := ry.sl
      replace h' := h'.ext hx; replace mg := mg.ext hx; replace hb := ext_trans hb hx; clear hx ry h
      go_wp2_with fail
      refine (toSS_any _ _ _ _ h' hi).mono ?_
      rintro e w16 ⟨Z, z, rfl, ry, hx⟩
      have s' := ry.sl
      replace s := s.ext hx; replace mg := mg.ext hx; replace hb := ext_trans hb hx; clear hx ry h'
      go_wp2_with fail
      refine (AG.out _ _ _ _ _ s s').mono ?_
      rintro e w17 ⟨J, j, rfl, rj, hx⟩
      have q := rj.sl
      replace mg := mg.ext hx; replace hb := ext_trans hb hx; clear hx rj s s'
      have k := H2.out.2.2.2.ext hb
      go_wp2_with fail
      refine (eqSS_any _ _ _ _ _ _ _ q k).mono ?_
      rintro e w18 ⟨rfl, hx⟩
      rw [HZ.out]
      replace mg := mg.ext hx; replace hb := ext_trans hb hx; clear hx q k
      go_wp2_with fail
      refine (heldSS_k G zs.length g 1 n1 1 _ rfl E.out.2.2 d1 (slS_mk mg)).mono ?_
      rintro e w19 ⟨rfl, hx⟩
      have FIN := hd (ext_trans H2.out.1 (ext_trans hb hx))
      clear hx mg hb
      go_wp2
      go_ret
      exact ⟨rfl, FIN.out⟩
  · have HL := hd (lft_out hn)
    go_enter Try.func12, Try.ntmps12
    go_wp2_with fail
    refine (szS_any A _ c 1048576 w (by omega) (by decide) (by decide)).mono ?_
    rintro e w' ⟨rfl, rfl⟩
    rw [HL.out]
    go_wp2
    go_ret
    exact ⟨rfl, Below.refl _ _⟩
end Go.Proofs.Ytabemhjbpnnlpaa
