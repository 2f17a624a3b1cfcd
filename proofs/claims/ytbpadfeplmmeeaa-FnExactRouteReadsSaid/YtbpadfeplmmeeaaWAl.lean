/- Contracts: clone over hosts, AddLoad of both, equalHosts. -/
import Derived.Test.YtbpadfeplmmeeaaWVh
import Derived.Test.YtbpadfeplmmeeaaMem2
import Derived.Laws.StructEq
namespace Go.Proofs.Ytbpadfeplmmeeaa
open Go.RowKit
/-- Hosts handed back in new memory. -/
def NewHo (zs : List Ho) (w : World) (r : Ending) (w' : World) : Prop :=
  ∃ A c, r = .returned (.slice A zs.length c) ∧ RwH w' w.heap.size 30 A c zs ∧ Below w.heap.size w w'
theorem SlH.at3 {w : World} {ad : Addr} {c : Nat} {xs : List Ho} (h : SlH w (some ad) c xs) {i : Nat} (hi : i < xs.length) :
    w.cell? (ad.add (i * 3)) = some (.int .i64 xs[i].1) ∧ w.cell? ⟨(ad.add (i * 3)).block, (ad.add (i * 3)).off + 1, none⟩ = some (.int .i64 xs[i].2.1) ∧ w.cell? ⟨(ad.add (i * 3)).block, (ad.add (i * 3)).off + 2, none⟩ = some (.bool xs[i].2.2) := by
  obtain ⟨ad', e', _, h1, h2, h3⟩ := h.at hi
  injection e' with e'; subst e'
  exact ⟨h1, h2, h3⟩
theorem rwH_nil (w : World) (B : Nat) (e : TypeId) (A : Option Addr) (c : Nat) (hc : c ≤ maxLen) : RwH w B e A c [] := rw_nil w B e 3 A c hc
set_option maxHeartbeats 400000 in
theorem cloneH0_any (A : Option Addr) (c : Nat) (xs : List Ho) (w : World) (h : SlH w A c xs) (hl : xs.length ≤ 1048576) :
    Calls Try.prog 48 #[.slice A xs.length c] w (NewHo xs w) := by
  have hn := fun (W : World) (n : Nat) => Lib.run_eql_slice_nil (P := Try.prog) W 23 30 A n c 0 0 Try.underlying23
  cases A with
  | none =>
    have h0 : xs = [] := by
      rcases Nat.eq_zero_or_pos xs.length with h0 | h0
      · exact List.eq_nil_of_length_eq_zero h0
      · obtain ⟨ad, e, _⟩ := Sl.addr h h0
        cases e
    subst h0
    go_enter Try.func48, Try.ntmps48
    go_wp2
    go_ret
    exact ⟨none, 0, rfl, rwH_nil _ _ _ _ _ (by decide), Below.refl _ _⟩
  | some ad =>
    have ho := hd (own_made w 30 3 [] 0 rfl (by decide))
    have hs := hd (Sl.alloc h (.cells #[] 30))
    go_enter Try.func48, Try.ntmps48
    go_wp2_with (at_builtin; refine wpList_apps eltH _ _ ho.out hs.out (cho_one _) (by omega) (by omega) (by simp) (by rfl) (by rfl) (by rfl) (by rfl) ?_; intro v' w2 hown2 hg2)
    go_ret
    obtain ⟨A2, c2, rfl, hr⟩ := rwH_of_own hown2 (by simp : [] ++ cho xs = cho xs) (by omega)
    exact ⟨A2, c2, rfl, hr, (ext_alloc (Below.refl _ _) _).grown hg2 (by simp) (by intro k hk; simp [Value.ownBlock] at hk; omega)⟩
theorem clipH_any (A : Option Addr) (n c : Nat) (w : World) (h : n ≤ c) (hc : c ≤ maxLen) :
    Calls Try.prog 47 #[.slice A n c] w fun e w' => e = .returned (.slice A n n) ∧ w = w' := by
  unfold maxLen at hc
  go_enter Try.func47, Try.ntmps47
  go_wp2
  go_ret
  exact ⟨rfl, rfl⟩
set_option maxHeartbeats 400000 in
theorem cloneH_any (A : Option Addr) (c : Nat) (xs : List Ho) (w : World) (h : SlH w A c xs) (hl : xs.length ≤ 1048576) :
    Calls Try.prog 33 #[.slice A xs.length c] w (NewHo xs w) := by
  go_enter Try.func33, Try.ntmps33
  go_wp2_with fail
  refine (cloneH0_any A c xs w h hl).mono ?_
  rintro e w1 ⟨A2, c2, rfl, hr, hb⟩
  have r1 := Sl.cap hr.1
  have r2 := Sl.max hr.1
  have HR := hd (Rw.clip hr)
  clear hr
  go_wp2_with fail
  refine (clipH_any _ _ _ _ r1 r2).mono ?_
  rintro e w' ⟨rfl, rfl⟩
  go_wp2
  go_ret
  exact ⟨A2, xs.length, rfl, HR.out, hb⟩
/-- A host's load replaced. -/
def setL (xs : List Ho) (i : Nat) (v : Int) : List Ho := xs.modify i fun h => (v, h.2)
theorem setL_len (xs : List Ho) (i : Nat) (v : Int) : (setL xs i v).length = xs.length := by simp [setL]
theorem cho_setL (xs : List Ho) (i : Nat) (v : Int) : (cho xs).set (i * 3) (.int .i64 v) = cho (setL xs i v) := by
  induction xs generalizing i with
  | nil => simp [cho, setL]
  | cons x r ih =>
    cases i with
    | zero => rfl
    | succ i =>
      have := ih i
      rw [cho_cons, show (i + 1) * 3 = i * 3 + 1 + 1 + 1 from by omega]
      simp only [List.set_cons_succ, this]
      rfl
theorem setL_at {xs : List Ho} {i : Nat} (v : Int) (h : i < xs.length) (k : Nat) (hk : k < xs.length) : (setL xs i v)[k]'(by rw [setL_len]; exact hk) = if k = i then (v, xs[k].2) else xs[k] := by
  simp only [setL, List.getElem_modify]
  split <;> split <;> first | rfl | omega
/-- A load stored into new hosts. -/
theorem RwH.load {w : World} {B : Nat} {A : Option Addr} {c : Nat} {xs : List Ho} (h : RwH w B 30 A c xs) {i : Nat} (hi : i < xs.length) :
    ∃ g, A = some ⟨g, 0, none⟩ ∧ B ≤ g ∧ g < w.heap.size ∧ w.cell? ⟨g, i * 3, none⟩ = some (.int .i64 xs[i].1) ∧ w.frozen? ⟨g, i * 3, none⟩ = false ∧
      ∀ v, RwH (w.setCell ⟨g, i * 3, none⟩ (.int .i64 v)) B 30 A c (setL xs i v) ∧ w.grownBy (w.setCell ⟨g, i * 3, none⟩ (.int .i64 v)) (some g) := by
  obtain ⟨g, e, hb, hg, hp⟩ := Rw.put h (by omega)
  obtain ⟨_, hf, hs⟩ := hp (i * 3) (by rw [cho_length]; omega)
  subst e
  have h1 := (SlH.at3 h.sl hi).1
  have e0 : (⟨g, 0, none⟩ : Addr).add (i * 3) = ⟨g, i * 3, none⟩ := by unfold Addr.add; split <;> simp_all
  rw [e0] at h1
  refine ⟨g, rfl, hb, hg, h1, hf, fun v => ⟨?_, (hs (.int .i64 v)).2⟩⟩
  have := (hs (.int .i64 v)).1
  rw [cho_setL] at this
  unfold RwH
  rw [setL_len]
  exact this
/-- Hosts with a load added. -/
def adl (xs : List Ho) (i : Nat) (v : Int) : List Ho := setL xs i (ldo' xs i + v)
where ldo' (xs : List Ho) (k : Nat) : Int := (xs.getD k (0, 0, false)).1
theorem adl_at {xs : List Ho} {i : Nat} (h : i < xs.length) (v : Int) : adl xs i v = setL xs i (xs[i].1 + v) := by
  simp [adl, adl.ldo', List.getD_eq_getElem?_getD, List.getElem?_eq_getElem h]
/-- AddLoad. -/
def AL (xs : List Ho) (host load : Int) : Option (List Ho) :=
  if VH xs = true ∧ inB host 0 (xs.length - 1) = true ∧ inB load (-100) 100 = true ∧ VH (adl xs host.toNat load) = true then some (adl xs host.toNat load) else none
theorem AL_no1 {xs : List Ho} {host load : Int} (h : VH xs = false) : AL xs host load = none := if_neg fun h' => by rw [h] at h'; cases h'.1
theorem AL_no2 {xs : List Ho} {host load : Int} (h : inB host 0 (xs.length - 1) = false) : AL xs host load = none := if_neg fun h' => by rw [h] at h'; cases h'.2.1
theorem AL_no3 {xs : List Ho} {host load : Int} (h : inB load (-100) 100 = false) : AL xs host load = none := if_neg fun h' => by rw [h] at h'; cases h'.2.2.1
theorem AL_no4 {xs : List Ho} {host load : Int} {i : Nat} (hi : host = (i : Int)) (h : VH (adl xs i load) = false) : AL xs host load = none := if_neg fun h' => by
  subst hi; rw [Int.toNat_natCast, h] at h'; cases h'.2.2.2
theorem AL_ok {xs : List Ho} {host load : Int} {i : Nat} (hi : host = (i : Int)) (h1 : VH xs = true) (h2 : inB host 0 (xs.length - 1) = true) (h3 : inB load (-100) 100 = true) (h4 : VH (adl xs i load) = true) : AL xs host load = some (adl xs i load) := by
  subst hi
  unfold AL
  rw [if_pos ⟨h1, h2, h3, by rw [Int.toNat_natCast]; exact h4⟩, Int.toNat_natCast]
/-- Hosts, or none, in new memory. -/
def NewHO (o : Option (List Ho)) (w : World) (r : Ending) (w' : World) : Prop :=
  ∃ A c, r = .returned (.tuple #[.slice A (o.getD []).length c, .bool o.isSome]) ∧ RwH w' w.heap.size 30 A c (o.getD []) ∧ Below w.heap.size w w'
theorem newHO_none {o : Option (List Ho)} {w w' : World} (h : o = none) (hb : Below w.heap.size w w') : NewHO o w (.returned (.tuple #[.slice none 0 0, .bool false])) w' := by
  subst h; exact ⟨none, 0, rfl, rwH_nil _ _ _ _ _ (by decide), hb⟩
theorem newHO_some {o : Option (List Ho)} {zs : List Ho} {w w' : World} {A : Option Addr} {n c : Nat} (h : o = some zs) (hn : n = zs.length) (hr : RwH w' w.heap.size 30 A c zs) (hb : Below w.heap.size w w') :
    NewHO o w (.returned (.tuple #[.slice A n c, .bool true])) w' := by
  subst h hn; exact ⟨A, c, rfl, hr, hb⟩
set_option maxHeartbeats 2000000 in
theorem al_any (A : Option Addr) (c : Nat) (xs : List Ho) (host load : Int) (w : World) (h : SlH w A c xs) :
    Calls Try.prog 11 #[.slice A xs.length c, .int .i64 host, .int .i64 load] w (NewHO (AL xs host load) w) := by
  have hmax := h.max
  have hcap := h.cap
  unfold maxLen at hmax
  cases h1 : VH xs with
  | false =>
    have HR := hd (AL_no1 (host := host) (load := load) h1)
    go_enter Try.func11, Try.ntmps11
    go_wp2_with fail
    refine (vh_any A c xs w h).mono ?_
    rintro e w1 ⟨rfl, hx1⟩
    go_wp2
    go_ret2
    exact newHO_none HR.out hx1
  | true =>
    have hl := VH_len h1
    cases h2 : inB host 0 (xs.length - 1) with
    | false =>
      have HR := hd (AL_no2 (load := load) h2)
      go_enter Try.func11, Try.ntmps11
      go_wp2_with fail
      refine (vh_any A c xs w h).mono ?_
      rintro e w1 ⟨rfl, hx1⟩
      go_wp2_with (go_at_call 32; refine (in_any _ _ _ _).mono ?_; rintro e w2 ⟨rfl, rfl⟩)
      go_ret2
      exact newHO_none HR.out hx1
    | true =>
      cases h3 : inB load (-100) 100 with
      | false =>
        have HR := hd (AL_no3 (xs := xs) (host := host) h3)
        go_enter Try.func11, Try.ntmps11
        go_wp2_with fail
        refine (vh_any A c xs w h).mono ?_
        rintro e w1 ⟨rfl, hx1⟩
        go_wp2_with (go_at_call 32; refine (in_any _ _ _ _).mono ?_; rintro e w2 ⟨rfl, rfl⟩)
        go_ret2
        exact newHO_none HR.out hx1
      | true =>
        have hh := inB_iff.1 h2
        have hlo := inB_iff.1 h3
        obtain ⟨i, hi⟩ : ∃ i : Nat, host = (i : Int) := ⟨host.toNat, by omega⟩
        have hil : i < xs.length := by omega
        have hok := inB_iff.1 (show inB xs[i].1 0 100 = true by
          have := List.all_eq_true.1 (VH_ok h1) _ (List.getElem_mem hil)
          simp only [okH, Bool.and_eq_true] at this
          exact this.1)
        have N4 := hd (fun h4 => AL_no4 (xs := xs) (load := load) hi h4)
        have N5 := hd (fun h4 => AL_ok hi h1 h2 h3 h4)
        have EA := hd (adl_at hil load)
        subst hi
        go_enter Try.func11, Try.ntmps11
        go_wp2_with fail
        refine (vh_any A c xs w h).mono ?_
        rintro e w1 ⟨rfl, hx1⟩
        go_wp2_with (go_at_call 32; refine (in_any _ _ _ _).mono ?_; rintro e w2 ⟨rfl, rfl⟩)
        refine (cloneH_any A c xs _ (h.ext hx1) (by omega)).mono ?_
        rintro e w2 ⟨B, d, rfl, hr, hx2⟩
        have hb2 := ext_trans hx1 hx2
        obtain ⟨g, rfl, hgB, hgl, hc0, hf0, hput⟩ := hr.load hil
        obtain ⟨hr3, hg3⟩ := hput (xs[i].1 + load)
        rw [← EA.out] at hr3
        have hb3 := hd (hb2.grown hg3 hb2.size (fun k e => by injection e with e; have := hx1.size; omega))
        have hlen : (adl xs i load).length = xs.length := by rw [EA.out, setL_len]
        obtain ⟨zs, hzs⟩ : ∃ zs, zs = adl xs i load := ⟨_, rfl⟩
        rw [← hzs] at hr3 N4 N5 hlen
        have HLEN := hd hlen
        have HR3 := hd (Rw.low (B' := w.heap.size) hr3 hx1.size)
        clear hput hr hg3 hr3 hzs hlen
        go_wp2_with fail
        cases h4 : VH zs with
        | true =>
          refine (vhN_any _ _ _ zs _ (RwH.sl HR3.out) HLEN.out.symm).mono ?_
          rintro e w4 ⟨rfl, hx4⟩
          rw [h4]
          go_wp2
          go_ret2
          exact newHO_some (N5.out h4) HLEN.out.symm (Rw.ext HR3.out hx4) (ext_trans hb3.out hx4)
        | false =>
          refine (vhN_any _ _ _ zs _ (RwH.sl HR3.out) HLEN.out.symm).mono ?_
          rintro e w4 ⟨rfl, hx4⟩
          rw [h4]
          go_wp2
          go_ret2
          exact newHO_none (N4.out h4) (ext_trans hb3.out hx4)
theorem svhN_any (A : Option Addr) (n c : Nat) (xs : List Ho) (w : World) (h : SlH w A c xs) (hn : n = xs.length) :
    Calls Try.prog 34 #[.slice A n c] w fun e w' => e = .returned (.bool (VH xs)) ∧ Below w.heap.size w w' := by
  subst hn; exact svh_any A c xs w h
set_option maxHeartbeats 2000000 in
theorem sal_any (A : Option Addr) (c : Nat) (xs : List Ho) (host load : Int) (w : World) (h : SlH w A c xs) :
    Calls Try.prog 12 #[.slice A xs.length c, .int .i64 host, .int .i64 load] w (NewHO (AL xs host load) w) := by
  have hmax := h.max
  have hcap := h.cap
  unfold maxLen at hmax
  cases h1 : VH xs with
  | false =>
    have HR := hd (AL_no1 (host := host) (load := load) h1)
    go_enter Try.func12, Try.ntmps12
    go_wp2_with fail
    refine (svh_any A c xs w h).mono ?_
    rintro e w1 ⟨rfl, hx1⟩
    go_wp2
    go_ret2
    exact newHO_none HR.out hx1
  | true =>
    have hl := VH_len h1
    cases h2 : inB host 0 (xs.length - 1) with
    | false =>
      have HR := hd (AL_no2 (load := load) h2)
      go_enter Try.func12, Try.ntmps12
      go_wp2_with fail
      refine (svh_any A c xs w h).mono ?_
      rintro e w1 ⟨rfl, hx1⟩
      go_wp2_with (go_at_call 35; refine (inr_any _ _ _ _).mono ?_; rintro e w2 ⟨rfl, rfl⟩)
      go_ret2
      exact newHO_none HR.out hx1
    | true =>
      cases h3 : inB load (-100) 100 with
      | false =>
        have HR := hd (AL_no3 (xs := xs) (host := host) h3)
        go_enter Try.func12, Try.ntmps12
        go_wp2_with fail
        refine (svh_any A c xs w h).mono ?_
        rintro e w1 ⟨rfl, hx1⟩
        go_wp2_with (go_at_call 35; refine (inr_any _ _ _ _).mono ?_; rintro e w2 ⟨rfl, rfl⟩)
        go_ret2
        exact newHO_none HR.out hx1
      | true =>
        have hh := inB_iff.1 h2
        have hlo := inB_iff.1 h3
        obtain ⟨i, hi⟩ : ∃ i : Nat, host = (i : Int) := ⟨host.toNat, by omega⟩
        have hil : i < xs.length := by omega
        have hok := inB_iff.1 (show inB xs[i].1 0 100 = true by
          have := List.all_eq_true.1 (VH_ok h1) _ (List.getElem_mem hil)
          simp only [okH, Bool.and_eq_true] at this
          exact this.1)
        have N4 := hd (fun h4 => AL_no4 (xs := xs) (load := load) hi h4)
        have N5 := hd (fun h4 => AL_ok hi h1 h2 h3 h4)
        have EA := hd (adl_at hil load)
        subst hi
        go_enter Try.func12, Try.ntmps12
        go_wp2_with fail
        refine (svh_any A c xs w h).mono ?_
        rintro e w1 ⟨rfl, hx1⟩
        have ho := hd (own_made w1 30 3 [] 0 rfl (by decide))
        have hs := hd (Sl.alloc (h.ext hx1) (.cells #[] 30))
        go_wp2_with (first | (go_at_call 35; refine (inr_any _ _ _ _).mono ?_; rintro e w2 ⟨rfl, rfl⟩) | (at_builtin; refine wpList_apps eltH _ _ ho.out hs.out (cho_one _) (by omega) (by omega) (by simp) (by rfl) (by rfl) (by rfl) (by rfl) ?_; intro v' w2 hown2 hg2; obtain ⟨B, d, rfl, hr⟩ := rwH_of_own hown2 (by simp : [] ++ cho xs = cho xs) (by omega); obtain ⟨g, rfl, hgB, hgl, hc0, hf0, hput⟩ := hr.load hil; have HPUT := hd hput; clear hput hr hown2))
        have hput := HPUT.out
        have hx2 : Below w1.heap.size w1 w2 := (ext_alloc (Below.refl _ _) _).grown hg2 (by simp) (by intro k hk; simp [Value.ownBlock] at hk; omega)
        have hb2 := ext_trans hx1 hx2
        obtain ⟨hr3, hg3⟩ := hput (xs[i].1 + load)
        rw [← EA.out] at hr3
        have hb3 := hd (hb2.grown hg3 hb2.size (fun k e => by injection e with e; have := hx1.size; omega))
        have hlen : (adl xs i load).length = xs.length := by rw [EA.out, setL_len]
        obtain ⟨zs, hzs⟩ : ∃ zs, zs = adl xs i load := ⟨_, rfl⟩
        rw [← hzs] at hr3 N4 N5 hlen
        have HLEN := hd hlen
        have HR3 := hd (Rw.low (B' := w.heap.size) hr3 hx1.size)
        clear hput hg3 hr3 hzs hlen hg2 HPUT
        go_wp2_with fail
        cases h4 : VH zs with
        | true =>
          refine (svhN_any _ _ _ zs _ (RwH.sl HR3.out) HLEN.out.symm).mono ?_
          rintro e w4 ⟨rfl, hx4⟩
          rw [h4]
          go_wp2
          go_ret2
          exact newHO_some (N5.out h4) HLEN.out.symm (Rw.ext HR3.out hx4) (ext_trans hb3.out hx4)
        | false =>
          refine (svhN_any _ _ _ zs _ (RwH.sl HR3.out) HLEN.out.symm).mono ?_
          rintro e w4 ⟨rfl, hx4⟩
          rw [h4]
          go_wp2
          go_ret2
          exact newHO_none (N4.out h4) (ext_trans hb3.out hx4)
theorem uH : Try.prog.underlying 30 = some (.struct (Try.prog.fieldsOf 30)) := by kernel_rfl
theorem sH : Try.prog.stoodInHeld 30 = false := by kernel_rfl
theorem gH : Try.prog.eqGuardType Try.prog.depth 30 = false := by kernel_rfl
theorem neqH (a b : Int) (p : Bool) (c d : Int) (q : Bool) (w : World) : (binOp .neq 30 (.agg #[.int .i64 a, .int .i64 b, .bool p]) (.agg #[.int .i64 c, .int .i64 d, .bool q])).run Try.prog w = .ok (.bool (!(a == c && (b == d && p == q)))) w := by
  have u3 := Try.underlying3
  have a3 := Try.isAgg3
  have z3 := Try.sizeOf3
  have u4 := Try.underlying4
  have a4 := Try.isAgg4
  have z4 := Try.sizeOf4
  rw [run_neq_struct, show (10000 : Nat) = 9999 + 1 from rfl, run_equalIn_agg w 9999 30 _ _ uH sH]
  simp only [Program.fieldsOf, Try.underlying30]
  go_simp
  by_cases h1 : a = c <;> by_cases h2 : b = d <;> by_cases h3 : p = q <;> simp [h1, h2, h3]
theorem neqH_same {x y : Ho} (he : x = y) (W : World) : (binOp .neq 30 (.agg #[.int .i64 x.1, .int .i64 x.2.1, .bool x.2.2]) (.agg #[.int .i64 y.1, .int .i64 y.2.1, .bool y.2.2])).run Try.prog W = .ok (.bool false) W := by
  rw [neqH, he]; simp
theorem neqH_other {x y : Ho} (he : x ≠ y) (W : World) : (binOp .neq 30 (.agg #[.int .i64 x.1, .int .i64 x.2.1, .bool x.2.2]) (.agg #[.int .i64 y.1, .int .i64 y.2.1, .bool y.2.2])).run Try.prog W = .ok (.bool true) W := by
  rw [neqH]
  by_cases h1 : x.1 = y.1
  · by_cases h2 : x.2.1 = y.2.1
    · have h3 : ¬ x.2.2 = y.2.2 := fun h3 => he (Prod.ext h1 (Prod.ext h2 h3))
      simp [h3]
    · simp [h2]
  · simp [h1]
/-- Hosts are the same. -/
def eqHo (xs ys : List Ho) : Bool := decide (xs = ys)
theorem eqHo_self (xs : List Ho) : eqHo xs xs = true := decide_eq_true rfl
set_option maxHeartbeats 1000000 in
theorem equalHosts_any (A A' : Option Addr) (c c' : Nat) (xs ys : List Ho) (w : World) (h : SlH w A c xs) (h' : SlH w A' c' ys) :
    Calls Try.prog 13 #[.slice A xs.length c, .slice A' ys.length c'] w fun e w' => e = .returned (.bool (eqHo xs ys)) ∧ Below w.heap.size w w' := by
  have hmax := h.max
  have hcap := h.cap
  unfold maxLen at hmax
  by_cases hl : xs.length = ys.length
  · have HL := hd hl
    have hlb : ((xs.length : Int) != (ys.length : Int)) = false := by simp [hl]
    have hle : xs.length ≤ ys.length := by omega
    clear hl
    have gH := gH
    go_enter Try.func13, Try.ntmps13
    go_wp2
    go_loopw [5] (fun i wr => ∃ k : Nat, k ≤ xs.length ∧ i = .int .i64 k ∧ Hid (xs.take k = ys.take k) ∧ Below w.heap.size w wr) (fun i _ => xs.length - (intOf i).toNat)
    case atStart => exact ⟨0, by omega, rfl, rfl, Below.refl _ _⟩
    case round =>
      obtain ⟨k, hk, rfl, HT, hb⟩ := hrel
      by_cases hlt : k < xs.length
      · have hlt' : k < ys.length := by omega
        obtain ⟨ad, rfl, hbl, hc0, hc1, hc2⟩ := (h.ext hb).at hlt
        obtain ⟨ad', rfl, hbl', hc0', hc1', hc2'⟩ := (h'.ext hb).at hlt'
        have hik : (k : Int) < (ys.length : Int) := by omega
        by_cases he : xs[k] = ys[k]
        · have HT' := hd (show xs.take (k + 1) = ys.take (k + 1) by rw [List.take_succ_eq_append_getElem hlt, List.take_succ_eq_append_getElem hlt', HT.out, he])
          have hn := neqH_same he
          clear he
          go_wp2_with fail
          go_quiet (fail)
          go_wp2
          go_roundw
          case rel => exact ⟨k + 1, by omega, by go_num, HT', below_drewN hb _⟩
          case measure => simp [intOf]; omega
        · have HE := hd (show eqHo xs ys = false from decide_eq_false fun e => he (by subst e; rfl))
          have hn := neqH_other he
          clear he
          go_wp2_with fail
          go_quiet (fail)
          go_wp2
          go_ret
          exact ⟨by rw [HE.out]; rfl, below_drewN hb _⟩
      · obtain rfl : k = xs.length := by omega
        have HE := hd (show eqHo xs ys = true from decide_eq_true (by
          have := HT.out
          rw [List.take_length] at this
          rw [this, HL.out, List.take_length]))
        go_wp2
        go_ret
        exact ⟨by rw [HE.out]; rfl, hb⟩
  · have HE := hd (show eqHo xs ys = false from decide_eq_false (fun e0 => hl (by rw [e0])))
    have hlb : ((xs.length : Int) != (ys.length : Int)) = true := by simp; omega
    clear hl
    go_enter Try.func13, Try.ntmps13
    go_wp2
    go_ret
    exact ⟨by rw [HE.out]; rfl, Below.refl _ _⟩
end Go.Proofs.Ytbpadfeplmmeeaa
