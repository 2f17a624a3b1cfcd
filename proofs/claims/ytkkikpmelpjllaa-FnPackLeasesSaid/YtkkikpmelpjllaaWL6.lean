/- Contracts of leases: whether a connection is taken, in both. -/
import Derived.Test.YtkkikpmelpjllaaWL5
import Derived.StillTailTactics
namespace Go.Proofs.Ytkkikpmelpjllaa
open Go.RowKit
/-- A place has the connection and meets the time. -/
def tk1 (out : List Le) (p : Nat) (c f u : Int) : Bool := ((gt out p).1 == c) && meB (gt out p) f u
theorem tkB_eq (out : List Le) (ps : List Nat) (c f u : Int) : tkB out ps c f u = ps.any fun p => tk1 out p c f u := rfl
section
variable {out : List Le} {ps : List Nat} {c f u : Int} {k : Nat}
theorem tk_done (out : List Le) (ps : List Nat) (c f u : Int) : tkB out (ps.drop ps.length) c f u = false := by simp [tkB]
theorem tk_yes (h : k < ps.length) (h1 : tk1 out ps[k] c f u = true) : tkB out (ps.drop k) c f u = true := by
  rw [tkB_eq, List.drop_eq_getElem_cons h, List.any_cons, h1]; rfl
theorem tk_no (h : k < ps.length) (h1 : tk1 out ps[k] c f u = false) : tkB out (ps.drop k) c f u = tkB out (ps.drop (k + 1)) c f u := by
  rw [tkB_eq, List.drop_eq_getElem_cons h, List.any_cons, h1]; rfl
end
theorem SlI.atN {w : World} {A : Option Addr} {c : Nat} {os : List Nat} (h : SlI w A c (ni os)) {k : Nat} (hk : k < os.length) :
    ∃ ad, A = some ad ∧ ad.block < w.heap.size ∧ w.cell? (ad.add k) = some (.int .i64 (os[k] : Int)) := by
  obtain ⟨ad, e, hb, hc⟩ := h.at (i := k) (by rw [ni_len]; exact hk)
  refine ⟨ad, e, hb, ?_⟩
  rw [hc]
  simp [ni]
set_option maxHeartbeats 1000000 in
theorem pl21_any (O : Option Addr) (o go gc gi k i : Nat) (cn : Int) (out : List Le) (w : World) (ho : Vx 23 w go (.slice O out.length o)) (h : SlL w O o out) (hc : Vx 3 w gc (.int .i64 cn)) (hi : Vx 3 w gi (.int .i64 (i : Int))) (hk : k < out.length) (hil : i < out.length) :
    Calls Try.prog 18 #[.int .i64 (k : Int), .pointer (some ⟨go, 0, none⟩), .pointer (some ⟨gc, 0, none⟩), .pointer (some ⟨gi, 0, none⟩)] w fun e w' => e = .returned (.bool (tk1 out k cn (gt out i).2.2.1 (gt out i).2.2.2)) ∧ Below w.heap.size w w' := by
  have hmax := Sl.max h
  have hcap := Sl.cap h
  unfold maxLen at hmax
  obtain ⟨ad, rfl, -, k0, k1, k2, k3⟩ := h.at hk
  obtain ⟨_, e1, -, i0, i1, i2, i3⟩ := h.at hil
  injection e1 with e1
  subst e1
  rw [← gt_at hk] at k0 k1 k2 k3
  rw [← gt_at hil] at i2 i3
  have o0 := ho.c
  have c0 := hc.c
  have n0 := hi.c
  clear h ho hc hi i0 i1
  by_cases he : (gt out k).1 = cn
  · have ge : ((gt out k).1 == cn) = true := beq_iff_eq.2 he
    have HV := hd (show tk1 out k cn (gt out i).2.2.1 (gt out i).2.2.2 = meB (gt out k) (gt out i).2.2.1 (gt out i).2.2.2 by simp only [tk1, ge, Bool.true_and])
    have HM := hd (fun W => meets_any (gt out k) (gt out i).2.2.1 (gt out i).2.2.2 W)
    clear he
    go_enter Try.func18, Try.ntmps18
    go_wp2_with fail
    go_still_tail 22, (by kernel_rfl)
    change wpList _ _ _ _ _ w.drew
    go_wp2_with (go_at_call 19; refine (HM.out _).mono ?_; rintro e w7 ⟨rfl, hx7⟩)
    go_ret
    exact ⟨by rw [HV.out]; rfl, ext_trans (ext_drew (Below.refl _ _)) hx7⟩
  · have ge : ((gt out k).1 == cn) = false := beq_eq_false_iff_ne.2 he
    have HV := hd (show tk1 out k cn (gt out i).2.2.1 (gt out i).2.2.2 = false by simp only [tk1, ge, Bool.false_and])
    clear he
    go_enter Try.func18, Try.ntmps18
    go_wp2_with fail
    go_quiet (fail)
    go_wp2
    go_ret
    exact ⟨by rw [HV.out]; rfl, below_drewN (Below.refl _ _) _⟩
set_option maxHeartbeats 1000000 in
theorem ixN_any (A : Option Addr) (n c : Nat) (ps : List Nat) (O : Option Addr) (o go gc gi i : Nat) (cn : Int) (out : List Le) (w : World) (hn : n = ps.length) (hp : SlI w A c (ni ps)) (hps : Hid (∀ p ∈ ps, p < out.length)) (ho : Vx 23 w go (.slice O out.length o)) (h : SlL w O o out) (hc : Vx 3 w gc (.int .i64 cn)) (hi : Vx 3 w gi (.int .i64 (i : Int))) (hil : i < out.length) :
    Calls Try.prog 36 #[.slice A n c, .func (.func 18) #[] #[.pointer (some ⟨go, 0, none⟩), .pointer (some ⟨gc, 0, none⟩), .pointer (some ⟨gi, 0, none⟩)]] w (IdxL (tkB out ps cn (gt out i).2.2.1 (gt out i).2.2.2) w) := by
  subst hn
  have hmax := Sl.max hp
  have hcap := Sl.cap hp
  rw [ni_len] at hcap
  unfold maxLen at hmax
  have HP := hd hp
  have HF := hd (And.intro ho (And.intro h (And.intro hc hi)))
  clear hp h ho hc hi
  go_enter Try.func36, Try.ntmps36
  go_wp2
  go_loopw [5, 8] (fun _ j wr => ∃ (k : Nat), k ≤ ps.length ∧ j = .int .i64 k ∧ Hid (tkB out ps cn (gt out i).2.2.1 (gt out i).2.2.2 = tkB out (ps.drop k) cn (gt out i).2.2.1 (gt out i).2.2.2) ∧ Below w.heap.size w wr) (fun _ j _ => ps.length - (intOf j).toNat)
  case atStart => exact ⟨0, Nat.zero_le _, rfl, rfl, Below.refl _ _⟩
  case round =>
    obtain ⟨k, hk, rfl, HV, hb⟩ := hrel
    by_cases hlt : k < ps.length
    · obtain ⟨ad, rfl, hbl, hc0⟩ := (HP.out.ext hb).atN hlt
      have HC := hd (pl21_any O o go gc gi ps[k] i cn out wr (HF.out.1.ext hb) (HF.out.2.1.ext hb) (HF.out.2.2.1.ext hb) (HF.out.2.2.2.ext hb) (hps.out _ (List.getElem_mem hlt)) hil)
      cases h1 : tk1 out ps[k] cn (gt out i).2.2.1 (gt out i).2.2.2 with
      | false =>
        have HV' := hd (HV.out.trans (tk_no hlt h1))
        rw [h1] at HC
        clear h1
        go_wp2_with (go_at_call 18; refine HC.out.mono ?_; rintro e w' ⟨rfl, hx⟩)
        go_roundw
        case rel => exact ⟨k + 1, by omega, by go_num, HV', ext_trans hb hx⟩
        case measure => simp [intOf]; omega
      | true =>
        have HV' := hd (HV.out.trans (tk_yes hlt h1))
        rw [h1] at HC
        clear h1
        go_wp2_with (go_at_call 18; refine HC.out.mono ?_; rintro e w' ⟨rfl, hx⟩)
        go_ret
        exact ⟨_, rfl, by rw [HV'.out]; exact decide_eq_true (by omega), ext_trans hb hx⟩
    · obtain rfl : k = ps.length := by omega
      have HV' := hd (HV.out.trans (tk_done _ _ _ _ _))
      go_wp2
      go_ret
      exact ⟨_, rfl, by rw [HV'.out]; rfl, hb⟩
set_option maxHeartbeats 400000 in
theorem cfN_any (A : Option Addr) (n c : Nat) (ps : List Nat) (O : Option Addr) (o go gc gi i : Nat) (cn : Int) (out : List Le) (w : World) (hn : n = ps.length) (hp : SlI w A c (ni ps)) (hps : Hid (∀ p ∈ ps, p < out.length)) (ho : Vx 23 w go (.slice O out.length o)) (h : SlL w O o out) (hc : Vx 3 w gc (.int .i64 cn)) (hi : Vx 3 w gi (.int .i64 (i : Int))) (hil : i < out.length) :
    Calls Try.prog 17 #[.slice A n c, .func (.func 18) #[] #[.pointer (some ⟨go, 0, none⟩), .pointer (some ⟨gc, 0, none⟩), .pointer (some ⟨gi, 0, none⟩)]] w fun e w' => e = .returned (.bool (tkB out ps cn (gt out i).2.2.1 (gt out i).2.2.2)) ∧ Below w.heap.size w w' := by
  have HI := hd (ixN_any A n c ps O o go gc gi i cn out w hn hp hps ho h hc hi hil)
  clear hn hp h ho hc hi
  go_enter Try.func17, Try.ntmps17
  go_wp2_with fail
  refine HI.out.mono ?_
  rintro e w' ⟨r, rfl, hr, hb⟩
  have HR := hd hr
  clear hr
  go_wp2
  go_ret
  exact ⟨by rw [← HR.out]; rfl, hb⟩
set_option maxHeartbeats 1000000 in
theorem pl2_any (A : Option Addr) (c n k : Nat) (os : List Nat) (O : Option Addr) (o gos gn go gi i : Nat) (cn : Int) (out : List Le) (w : World) (hno : n = os.length) (hs : Vx 37 w gos (.slice A n c)) (hp : SlI w A c (ni os)) (hps : Hid (∀ p ∈ os, p < out.length)) (hk : k ≤ os.length) (hn : Vx 3 w gn (.int .i64 (k : Int))) (ho : Vx 23 w go (.slice O out.length o)) (h : SlL w O o out) (hi : Vx 3 w gi (.int .i64 (i : Int))) (hil : i < out.length) :
    Calls Try.prog 16 #[.int .i64 cn, .pointer (some ⟨gos, 0, none⟩), .pointer (some ⟨gn, 0, none⟩), .pointer (some ⟨go, 0, none⟩), .pointer (some ⟨gi, 0, none⟩)] w fun e w' => e = .returned (.bool (tkB out (os.take k) cn (gt out i).2.2.1 (gt out i).2.2.2)) ∧ Below w.heap.size w w' := by
  subst hno
  have hmax := Sl.max hp
  have hcap := Sl.cap hp
  rw [ni_len] at hcap
  unfold maxLen at hmax
  obtain ⟨W0, hW0⟩ : ∃ W0, W0 = w.alloc (.cells #[.int .i64 cn] 3) := ⟨_, rfl⟩
  have hb0 : Below w.heap.size w W0 := by rw [hW0]; exact ext_alloc (Below.refl _ _) _
  have bc : Vx 3 W0 w.heap.size (.int .i64 cn) := by rw [hW0]; exact Vx.new _ w _
  have HC := hd (cfN_any A k c (os.take k) O o go w.heap.size gi i cn out W0 (by rw [List.length_take]; omega) (by rw [← ni_take]; exact (hp.ext hb0).take (by rw [ni_len]; exact hk)) (hd (fun p hp' => hps.out p (List.mem_of_mem_take hp'))) (ho.ext hb0) (h.ext hb0) bc (hi.ext hb0) hil)
  have s0 := (hs.ext hb0).c
  have n0 := (hn.ext hb0).c
  have HB := hd hb0
  have hkc : k ≤ c := by omega
  have hkc2 : (k : Int) ≤ (c : Int) := by omega
  clear hs hp hn ho h hi bc hb0
  go_enter Try.func16, Try.ntmps16
  go_upto_region 1 with fail
  rw [← hW0]
  clear hW0
  go_wp2_with fail
  refine HC.out.mono ?_
  rintro e w7 ⟨rfl, hx⟩
  have HX := hd (ext_trans HB.out hx)
  clear hx
  go_wp2
  go_ret
  exact ⟨rfl, HX.out⟩
set_option maxRecDepth 100000 in
set_option maxHeartbeats 1000000 in
theorem used_any (A : Option Addr) (n c : Nat) (ps : List Nat) (O : Option Addr) (o : Nat) (cn : Int) (x : Le) (out : List Le) (w : World) (hn : n = ps.length) (hp : SlI w A c (ni ps)) (hps : Hid (∀ p ∈ ps, p < out.length)) (h : SlL w O o out) :
    Calls Try.prog 22 #[.slice O out.length o, .slice A n c, .int .i64 cn, .agg #[.int .i64 x.1, .int .i64 x.2.1, .int .i64 x.2.2.1, .int .i64 x.2.2.2]] w fun e w' => e = .returned (.bool (tkB out ps cn x.2.2.1 x.2.2.2)) ∧ Below w.heap.size w w' := by
  subst hn
  have hmax := Sl.max hp
  have hcap := Sl.cap hp
  rw [ni_len] at hcap
  unfold maxLen at hmax
  have hmax2 := Sl.max h
  have hcap2 := Sl.cap h
  unfold maxLen at hmax2
  obtain ⟨W0, hW0⟩ : ∃ W0, W0 = w.alloc (.cells #[.int .i64 x.1, .int .i64 x.2.1, .int .i64 x.2.2.1, .int .i64 x.2.2.2] 30) := ⟨_, rfl⟩
  have hb0 : Below w.heap.size w W0 := by rw [hW0]; exact ext_alloc (Below.refl _ _) _
  have HF := hd (And.intro (show Lx W0 w.heap.size x by rw [hW0]; exact Lx.new w x) (And.intro (hp.ext hb0) (h.ext hb0)))
  have HB := hd hb0
  clear hp h hb0
  go_enter Try.func22, Try.ntmps22
  go_upto_region 1 with fail
  rw [← hW0]
  clear hW0
  go_wp2
  go_loopw [9] (fun j wr => ∃ (k : Nat), k ≤ ps.length ∧ j = .int .i64 k ∧ Hid (tkB out ps cn x.2.2.1 x.2.2.2 = tkB out (ps.drop k) cn x.2.2.1 x.2.2.2) ∧ Below W0.heap.size W0 wr) (fun j _ => ps.length - (intOf j).toNat)
  case atStart => exact ⟨0, Nat.zero_le _, rfl, rfl, Below.refl _ _⟩
  case round =>
    obtain ⟨k, hk, rfl, HV, hb⟩ := hrel
    by_cases hlt : k < ps.length
    · obtain ⟨ad, rfl, -, hc0⟩ := (HF.out.2.1.ext hb).atN hlt
      have hpl := hps.out _ (List.getElem_mem hlt)
      obtain ⟨p, hpk⟩ : ∃ p, p = ps[k] := ⟨_, rfl⟩
      rw [← hpk] at hc0 hpl
      obtain ⟨ad2, rfl, -, k0, k1, k2, k3⟩ := (HF.out.2.2.ext hb).at hpl
      rw [← gt_at hpl] at k0 k1 k2 k3
      have bx := HF.out.1.ext hb
      have x0 := bx.c0
      have x1 := bx.c1
      have x2 := bx.c2
      have x3 := bx.c3
      have HBB := hd hb
      clear bx hb
      have HT : Hid (tk1 out ps[k] cn x.2.2.1 x.2.2.2 = tk1 out p cn x.2.2.1 x.2.2.2) := hd (by rw [hpk])
      clear hpk
      have hpz : (p : Int) < (out.length : Int) := by omega
      by_cases he : (gt out p).1 = cn
      · have ge : ((gt out p).1 == cn) = true := beq_iff_eq.2 he
        cases hm : meB (gt out p) x.2.2.1 x.2.2.2 with
        | false =>
          have HV' := hd (HV.out.trans (tk_no hlt (by rw [HT.out]; simp only [tk1, hm, Bool.and_false])))
          have HM := hd (fun W => smeets_any (gt out p) x W)
          rw [hm] at HM
          clear he hm
          go_wp2_with fail
          go_still_tail 19, (by kernel_rfl)
          change wpList _ _ _ _ _ wr.drew
          go_wp2_with (go_at_call 38; refine (HM.out _).mono ?_; rintro e w7 ⟨rfl, hx7⟩)
          go_roundw
          case rel => exact ⟨k + 1, by omega, by go_num, HV', ext_trans (ext_drew HBB.out) hx7⟩
          case measure => simp [intOf]; omega
        | true =>
          have HV' := hd (HV.out.trans (tk_yes hlt (by rw [HT.out]; simp only [tk1, ge, hm, Bool.and_self])))
          have HM := hd (fun W => smeets_any (gt out p) x W)
          rw [hm] at HM
          clear he hm
          go_wp2_with fail
          go_still_tail 19, (by kernel_rfl)
          change wpList _ _ _ _ _ wr.drew
          go_wp2_with (go_at_call 38; refine (HM.out _).mono ?_; rintro e w7 ⟨rfl, hx7⟩)
          go_ret
          exact ⟨by rw [HV'.out]; rfl, HB.out.trans ((ext_trans (ext_drew HBB.out) hx7).mono HB.out.size)⟩
      · have ge : ((gt out p).1 == cn) = false := beq_eq_false_iff_ne.2 he
        have HV' := hd (HV.out.trans (tk_no hlt (by rw [HT.out]; simp only [tk1, ge, Bool.false_and])))
        clear he
        go_wp2_with fail
        go_quiet (fail)
        go_wp2
        go_roundw
        case rel => exact ⟨k + 1, by omega, by go_num, HV', below_drewN HBB.out _⟩
        case measure => simp [intOf]; omega
    · obtain rfl : k = ps.length := by omega
      have HV' := hd (HV.out.trans (tk_done _ _ _ _ _))
      go_wp2
      go_ret
      exact ⟨by rw [HV'.out]; rfl, HB.out.trans (hb.mono HB.out.size)⟩
end Go.Proofs.Ytkkikpmelpjllaa
