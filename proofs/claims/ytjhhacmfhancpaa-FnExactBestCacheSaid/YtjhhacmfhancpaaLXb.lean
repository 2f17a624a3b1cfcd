/- The walk of the exact law of BestCache. -/
import Derived.Test.YtjhhacmfhancpaaExCs
import Derived.Test.YtjhhacmfhancpaaWBs
namespace Go.Proofs.Ytjhhacmfhancpaa
open Go.RowKit
set_option maxRecDepth 100000 in
set_option maxHeartbeats 4000000 in
theorem lawExactBestCache (A : Option Addr) (c : Nat) (rs : List Cr) (L : Option Addr) (l : Nat) (ns : List Int) (w : World) (h : SlC w A c rs) (hn : SlI w L l ns) :
    Calls Try.prog 7 #[.slice A rs.length c, .slice L ns.length l] w fun e w' => e = .returned (.bool true) ∧ Below w.heap.size w w' := by
  have hmaxn := hn.max
  have hcapn := hn.cap
  unfold maxLen at hmaxn
  by_cases hi : ns.length ≤ 1048576
  · have HI := hd (sameI_self ns)
    obtain ⟨res, hres⟩ : ∃ res, res = BST (crs rs) ns := ⟨_, rfl⟩
    have AG : Hid (∀ P p qs U u w, SlC w P p qs → Hid (crs qs = crs rs) → SlI w U u ns → Calls Try.prog 26 #[.slice P qs.length p, .slice U ns.length u] w fun e w' => e = .returned (.int .i64 res) ∧ Below w.heap.size w w') := hd (fun P p qs U u w s e sn => by
      have := bc_any P p qs U u ns w s sn
      rwa [e.out, ← hres] at this)
    have SG : Hid (∀ P p qs U u w, SlC w P p qs → Hid (crs qs = crs rs) → SlI w U u ns → Calls Try.prog 24 #[.slice P qs.length p, .slice U ns.length u] w fun e w' => e = .returned (.int .i64 res) ∧ Below w.heap.size w w') := hd (fun P p qs U u w s e sn => by
      have := sbc_any P p qs U u ns w s sn
      rwa [e.out, ← hres] at this)
    have gb : (res != res) = false := by simp
    clear hres
    go_enter Try.func7, Try.ntmps7
    go_wp2_with fail
    refine (szCL_any A c rs w h).mono ?_
    rintro e w1 ⟨hb, he⟩
    replace h := h.ext hb; replace hn := hn.ext hb
    rcases he with rfl | ⟨m, rfl, l1, HL⟩
    · go_wp2
      go_ret
      exact ⟨rfl, hb⟩
    · go_wp2_with fail
      refine (toCL_any _ _ _ _ h l1 HL).mono ?_
      rintro e w2 ⟨P1, p1, qs1, E1, rfl, s, hx⟩
      replace h := h.ext hx; replace hn := hn.ext hx; replace hb := ext_trans hb hx; clear hx
      go_wp2_with fail
      refine (toIS_any _ _ _ _ hn hi).mono ?_
      rintro e w3 ⟨U1, z1, rfl, r1, hx⟩
      have sn := r1.sl; clear r1
      replace h := h.ext hx; replace hn := hn.ext hx; replace s := s.ext hx; replace hb := ext_trans hb hx; clear hx
      go_wp2_with fail
      refine (SG.out _ _ _ _ _ _ s E1 sn).mono ?_
      rintro e w4 ⟨rfl, hx⟩
      clear s sn
      replace h := h.ext hx; replace hn := hn.ext hx; replace hb := ext_trans hb hx; clear hx
      go_wp2_with fail
      refine (toCL_any _ _ _ _ h l1 HL).mono ?_
      rintro e w5 ⟨X, x, qs, E2, rfl, s, hx⟩
      replace h := h.ext hx; replace hn := hn.ext hx; replace hb := ext_trans hb hx; clear hx
      go_wp2_with fail
      refine (toIS_any _ _ _ _ hn hi).mono ?_
      rintro e w6 ⟨V, v, rfl, rv, hx⟩
      have sv := rv.sl; clear rv
      replace h := h.ext hx; replace hn := hn.ext hx; replace s := s.ext hx; replace hb := ext_trans hb hx; clear hx
      go_wp2_with fail
      refine (AG.out _ _ _ _ _ _ s E2 sv).mono ?_
      rintro e w7 ⟨rfl, hx⟩
      replace h := h.ext hx; replace hn := hn.ext hx; replace s := s.ext hx; replace sv := sv.ext hx; replace hb := ext_trans hb hx; clear hx
      go_wp2_with fail
      refine (toCL_any _ _ _ _ h l1 HL).mono ?_
      rintro e w8 ⟨Y, y, qs3, E3, rfl, k, hx⟩
      replace hn := hn.ext hx; replace s := s.ext hx; replace sv := sv.ext hx; replace hb := ext_trans hb hx; clear hx h
      have E4 := hd (E3.out.trans E2.out.symm)
      go_wp2_with fail
      refine (eqCL_any _ _ _ _ _ _ _ s k E4).mono ?_
      rintro e w9 ⟨rfl, hx⟩
      replace hn := hn.ext hx; replace sv := sv.ext hx; replace hb := ext_trans hb hx; clear hx s k
      go_wp2_with fail
      refine (toIS_any _ _ _ _ hn hi).mono ?_
      rintro e w10 ⟨Y1, y1, rfl, ry, hx⟩
      have sy := ry.sl; clear ry
      replace sv := sv.ext hx; replace hb := ext_trans hb hx; clear hx hn
      go_wp2_with fail
      refine (eqIS_any _ _ _ _ _ _ _ sv sy).mono ?_
      rintro e w11 ⟨rfl, hx⟩
      rw [HI.out]
      have FIN := hd (ext_trans hb hx)
      clear hb hx sv sy
      go_wp2
      go_ret
      exact ⟨rfl, FIN.out⟩
  · go_enter Try.func7, Try.ntmps7
    go_wp2
    go_ret
    exact ⟨rfl, Below.refl _ _⟩
end Go.Proofs.Ytjhhacmfhancpaa
