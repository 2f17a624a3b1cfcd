/- The walk of the exact law of AddLoad. -/
import Derived.Test.YtbpadfeplmmeeaaExHm
import Derived.Test.YtbpadfeplmmeeaaWAl
namespace Go.Proofs.Ytbpadfeplmmeeaa
open Go.RowKit
/-- Marks of hosts, the count named. -/
theorem markHS_k (B : Nat) (A : Option Addr) (c : Nat) (xs : List Ho) (k k1 : Nat) (kz : Int) (w : World) (hkz : kz = (k : Int)) (e1 : k1 = k + 3 * xs.length) (hk : k1 ≤ 4611686018427387904) (h : RwH w B 30 A c xs) :
    Calls Try.prog 18 #[.slice A xs.length c, .int .i64 kz] w fun e w' => e = .returned (.int .i64 (k1 : Int)) ∧ RwH w' B 30 A c (mkH xs.length k) ∧ w.grownBy w' (rowOf A xs.length) := by
  subst hkz e1
  exact markHS_any B A c xs k w h hk
theorem heldHS_k (A : Option Addr) (n c : Nat) (k k1 : Nat) (kz : Int) (w : World) (hkz : kz = (k : Int)) (e1 : k1 = k + 3 * n) (hk : k1 ≤ 4611686018427387904) (h : SlH w A c (mkH n k)) :
    Calls Try.prog 19 #[.slice A n c, .int .i64 kz] w fun e w' => e = .returned (.int .i64 (k1 : Int)) ∧ Below w.heap.size w w' := by
  subst hkz e1
  exact heldHS_any A n c k w h hk
theorem slH_mk {w : World} {A : Option Addr} {c n k : Nat} (h : Sl w 3 A n c (cho (mkH n k))) : SlH w A c (mkH n k) := by
  unfold SlH; rw [mkH_len]; exact h
/-- Hosts and a flag, in new memory. -/
def NewHG (zs : List Ho) (b : Bool) (w : World) (r : Ending) (w' : World) : Prop :=
  ∃ A c, r = .returned (.tuple #[.slice A zs.length c, .bool b]) ∧ RwH w' w.heap.size 30 A c zs ∧ Below w.heap.size w w'
theorem AL_small (xs : List Ho) (host load : Int) : ((AL xs host load).getD []).length ≤ xs.length := by
  unfold AL
  split
  · simp [adl, setL]
  · exact Nat.zero_le _
set_option maxRecDepth 100000 in
set_option maxHeartbeats 2000000 in
theorem lawExactAddLoad (A : Option Addr) (c : Nat) (xs : List Ho) (host load : Int) (w : World) (h : SlH w A c xs) (_ : -9223372036854775808 ≤ host ∧ host ≤ 9223372036854775807) (_ : -9223372036854775808 ≤ load ∧ load ≤ 9223372036854775807) :
    Calls Try.prog 5 #[.slice A xs.length c, .int .i64 host, .int .i64 load] w fun e w' => e = .returned (.bool true) ∧ Below w.heap.size w w' := by
  have hmax := h.max
  have hcap := h.cap
  unfold maxLen at hmax
  by_cases hn : xs.length ≤ 1048576
  · obtain ⟨m, hm, hm1⟩ := lft_in hn
    have HL := hd hm
    have hs0 := AL_small xs host load
    have AG : Hid (∀ P p w, SlH w P p xs → Calls Try.prog 11 #[.slice P xs.length p, .int .i64 host, .int .i64 load] w (NewHG ((AL xs host load).getD []) (AL xs host load).isSome w)) := hd (fun P p w s => al_any P p xs host load w s)
    have SG : Hid (∀ P p w, SlH w P p xs → Calls Try.prog 12 #[.slice P xs.length p, .int .i64 host, .int .i64 load] w (NewHG ((AL xs host load).getD []) (AL xs host load).isSome w)) := hd (fun P p w s => sal_any P p xs host load w s)
    obtain ⟨zs, hzs⟩ : ∃ zs, zs = (AL xs host load).getD [] := ⟨_, rfl⟩
    obtain ⟨b, hbs⟩ : ∃ b, b = (AL xs host load).isSome := ⟨_, rfl⟩
    rw [← hzs] at hs0 AG SG
    rw [← hbs] at AG SG
    clear hzs hbs
    have gb : (b != b) = false := by simp
    have HS := hd (sameH_self xs)
    have HZ := hd (sameH_self zs)
    obtain ⟨k1, e1⟩ : ∃ k1, k1 = 1 + 3 * xs.length := ⟨_, rfl⟩
    obtain ⟨n1, f1⟩ : ∃ n1, n1 = 1 + 3 * zs.length := ⟨_, rfl⟩
    have b1 : k1 ≤ 4611686018427387904 := by omega
    have d1 : n1 ≤ 4611686018427387904 := by omega
    have gn : ((n1 : Int) != (n1 : Int)) = false := by simp
    have E := hd (And.intro e1 f1)
    have hb := Below.refl w.heap.size w
    clear hm e1 f1
    go_enter Try.func5, Try.ntmps5
    go_wp2_with fail
    refine (szH_any A _ c 1048576 w (by omega) (by decide) (by decide)).mono ?_
    rintro e w' ⟨rfl, rfl⟩
    rw [HL.out]
    go_wp2_with fail
    refine (toHS_any _ _ _ _ h hn).mono ?_
    rintro e w1 ⟨P, p, rfl, r, hx⟩
    replace s := r.sl; replace h := h.ext hx; replace hb := ext_trans hb hx; clear hx
    go_wp2_with fail
    refine (SG.out _ _ _ s).mono ?_
    rintro e w1 ⟨K, kc, rfl, r, hx⟩
    replace k := r.sl; replace h := h.ext hx; replace hb := ext_trans hb hx; clear hx
    have hb0 := hb
    have H2 := hd (And.intro hb0 (And.intro h k))
    obtain ⟨W2, hW2⟩ : ∃ W2, W2 = w1 := ⟨_, rfl⟩
    replace hb : Below W2.heap.size W2 w1 := by subst hW2; exact Below.refl _ _
    go_wp2_with fail
    refine (toHS_any _ _ _ _ h hn).mono ?_
    rintro e w2 ⟨X, x, rfl, rx, hx⟩
    rw [← hW2] at H2 rx
    clear hW2
    have NX := hd (fun g hg => Rw.row rx g hg)
    have s := rx.sl
    replace hb := ext_trans hb hx; replace h := h.ext hx; replace k := k.ext hx; clear hx
    go_wp2_with fail
    refine (AG.out _ _ _ s).mono ?_
    rintro e w3 ⟨G, g, rfl, rg, hx⟩
    have NG := hd (fun g hg => Rw.row rg g hg)
    have hw2 : W2.heap.size ≤ w2.heap.size := hb.size
    have sx : SlH w3 X x xs := s.ext hx
    replace rx := Rw.ext rx hx
    replace hb := ext_trans hb hx; replace h := h.ext hx; replace k := k.ext hx; clear hx
    replace s := rg.sl
    go_wp2_with fail
    refine (eqHS_any _ _ _ _ _ _ _ s k).mono ?_
    rintro e w4 ⟨rfl, hx⟩
    rw [HZ.out]
    replace rx := Rw.ext rx hx; replace rg := Rw.ext rg hx; replace sx := sx.ext hx
    replace hb := ext_trans hb hx; replace h := h.ext hx; clear hx s k
    go_wp2_with fail
    refine (toHS_any _ _ _ _ h hn).mono ?_
    rintro e w5 ⟨Y, y, rfl, ry, hx⟩
    have s := ry.sl
    replace rx := Rw.ext rx hx; replace rg := Rw.ext rg hx; replace sx := sx.ext hx
    replace hb := ext_trans hb hx; clear hx ry h
    go_wp2_with fail
    refine (eqHS_any _ _ _ _ _ _ _ sx s).mono ?_
    rintro e w6 ⟨rfl, hx⟩
    rw [HS.out]
    replace rx := Rw.ext rx hx; replace rg := Rw.ext rg hx
    replace hb := ext_trans hb hx; clear hx s sx
    go_wp2_with fail
    refine (markHS_k W2.heap.size X x xs 1 k1 1 _ rfl E.out.1 b1 rx).mono ?_
    rintro e w7 ⟨rfl, -, hC⟩
    replace rg := Rw.apart rg hC (fun j hj e => by have := (NX.out _ e).2; have := (NG.out _ hj).1; omega)
    replace hb := hb.grown hC hb.size (fun g e => (NX.out g e).1)
    have k := H2.out.2.2.ext hb
    have s : SlH w7 G g zs := rg.1
    clear hC rx
    go_wp2_with fail
    refine (eqHS_any _ _ _ _ _ _ _ s k).mono ?_
    rintro e w8 ⟨rfl, hx⟩
    rw [HZ.out]
    replace rg := Rw.ext rg hx
    replace hb := ext_trans hb hx; clear hx s k
    go_wp2_with fail
    refine (markHS_k w2.heap.size G g zs 1 n1 1 _ rfl E.out.2 d1 rg).mono ?_
    rintro e w9 ⟨rfl, mg, hC⟩
    replace hb := hb.grown hC hb.size (fun g e => by have := (NG.out g e).1; omega)
    replace mg : Sl w9 3 G (mkH zs.length 1).length g (cho (mkH zs.length 1)) := mg.1
    rw [mkH_len] at mg
    clear hC rg
    go_wp2_with fail
    refine (heldHS_k G zs.length g 1 n1 1 _ rfl E.out.2 d1 (slH_mk mg)).mono ?_
    rintro e w10 ⟨rfl, hx⟩
    replace mg := mg.ext hx; replace hb := ext_trans hb hx; clear hx
    have h := H2.out.2.1.ext hb
    go_wp2_with fail
    refine (toHS_any _ _ _ _ h hn).mono ?_
    rintro e w11 ⟨Y, y, rfl, ry, hx⟩
    have s := ry.sl
    replace mg := mg.ext hx; replace hb := ext_trans hb hx; clear hx ry h
    go_wp2_with fail
    refine (AG.out _ _ _ s).mono ?_
    rintro e w12 ⟨J, j, rfl, rj, hx⟩
    replace s := rj.sl
    replace mg := mg.ext hx; replace hb := ext_trans hb hx; clear hx rj
    have k := H2.out.2.2.ext hb
    go_wp2_with fail
    refine (eqHS_any _ _ _ _ _ _ _ s k).mono ?_
    rintro e w13 ⟨rfl, hx⟩
    rw [HZ.out]
    replace mg := mg.ext hx; replace hb := ext_trans hb hx; clear hx s k
    go_wp2_with fail
    refine (heldHS_k G zs.length g 1 n1 1 _ rfl E.out.2 d1 (slH_mk mg)).mono ?_
    rintro e w14 ⟨rfl, hx⟩
    have FIN := hd (ext_trans H2.out.1 (ext_trans hb hx))
    clear hx mg hb
    go_wp2
    go_ret
    exact ⟨rfl, FIN.out⟩
  · have HL := hd (lft_out hn)
    go_enter Try.func5, Try.ntmps5
    go_wp2_with fail
    refine (szH_any A _ c 1048576 w (by omega) (by decide) (by decide)).mono ?_
    rintro e w' ⟨rfl, rfl⟩
    rw [HL.out]
    go_wp2
    go_ret
    exact ⟨rfl, Below.refl _ _⟩
end Go.Proofs.Ytbpadfeplmmeeaa
