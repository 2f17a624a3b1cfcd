/- Contracts of leases: ValidLeases of both, copies. -/
import Derived.Test.YtkkikpmelpjllaaWL1
namespace Go.Proofs.Ytkkikpmelpjllaa
open Go.RowKit
/-- What IndexFunc leaves. -/
def IdxL (b : Bool) (w : World) (e : Ending) (w' : World) : Prop :=
  ∃ r : Int, e = .returned (.int .i64 r) ∧ decide (0 ≤ r) = b ∧ Below w.heap.size w w'
set_option maxHeartbeats 400000 in
theorem ixL_any (A : Option Addr) (c : Nat) (xs : List Le) (x : Le) (g : Nat) (w : World) (h : SlL w A c xs) (hx : Lx w g x) :
    Calls Try.prog 41 #[.slice A xs.length c, .func (.func 28) #[] #[.pointer (some ⟨g, 0, none⟩)]] w (IdxL (xs.any fun y => clB y x) w) := by
  have hmax := Sl.max h
  have hcap := Sl.cap h
  unfold maxLen at hmax
  have H := hd h
  clear h
  go_enter Try.func41, Try.ntmps41
  go_wp2
  go_loopw [5, 8] (fun _ i wr => ∃ (k : Nat), k ≤ xs.length ∧ i = .int .i64 k ∧ Hid ((xs.any fun y => clB y x) = (xs.drop k).any fun y => clB y x) ∧ Below w.heap.size w wr) (fun _ i _ => xs.length - (intOf i).toNat)
  case atStart => exact ⟨0, Nat.zero_le _, rfl, rfl, Below.refl _ _⟩
  case round =>
    obtain ⟨k, hk, rfl, HV, hb⟩ := hrel
    by_cases hlt : k < xs.length
    · obtain ⟨ad, rfl, hbl, hc0, hc1, hc2, hc3⟩ := (H.out.ext hb).at hlt
      have bx := hx.ext hb
      cases h1 : clB xs[k] x with
      | false =>
        have HV' := hd (HV.out.trans (any_no hlt h1))
        go_wp2_with (go_at_call 28; refine (vl1_any xs[k] x _ _ bx).mono ?_; rintro e w' ⟨rfl, hx⟩)
        go_roundw
        case rel => exact ⟨k + 1, by omega, by go_num, HV', ext_trans hb hx⟩
        case measure => simp [intOf]; omega
      | true =>
        have HV' := hd (HV.out.trans (any_yes hlt h1))
        go_wp2_with (go_at_call 28; refine (vl1_any xs[k] x _ _ bx).mono ?_; rintro e w' ⟨rfl, hx⟩)
        go_ret
        exact ⟨_, rfl, by rw [HV'.out]; exact decide_eq_true (by omega), ext_trans hb hx⟩
    · obtain rfl : k = xs.length := by omega
      have HV' := hd (HV.out.trans (any_done _))
      go_wp2
      go_ret
      exact ⟨_, rfl, by rw [HV'.out]; rfl, hb⟩
set_option maxHeartbeats 400000 in
theorem cfL_any (A : Option Addr) (n c : Nat) (xs : List Le) (x : Le) (g : Nat) (w : World) (h : SlL w A c xs) (hx : Lx w g x) (hn : n = xs.length) :
    Calls Try.prog 27 #[.slice A n c, .func (.func 28) #[] #[.pointer (some ⟨g, 0, none⟩)]] w fun e w' => e = .returned (.bool (xs.any fun y => clB y x)) ∧ Below w.heap.size w w' := by
  subst hn
  go_enter Try.func27, Try.ntmps27
  go_wp2_with fail
  refine (ixL_any A c xs x g w h hx).mono ?_
  rintro e w' ⟨r, rfl, hr, hb⟩
  have HR := hd hr
  clear hr
  go_wp2
  go_ret
  exact ⟨by rw [← HR.out]; rfl, hb⟩
set_option maxHeartbeats 4000000 in
theorem vl_any (A : Option Addr) (c : Nat) (xs : List Le) (w : World) (h : SlL w A c xs) :
    Calls Try.prog 9 #[.slice A xs.length c] w fun e w' => e = .returned (.bool (VL xs)) ∧ Below w.heap.size w w' := by
  have hmax := Sl.max h
  have hcap := Sl.cap h
  unfold maxLen at hmax
  have H := hd h
  clear h
  go_enter Try.func9, Try.ntmps9
  go_wp2
  go_loopw [3, 4, 7] (fun _ _ i wr => ∃ (k : Nat), k ≤ xs.length ∧ i = .int .i64 k ∧ Hid (VlU xs k) ∧ Below w.heap.size w wr) (fun _ _ i _ => xs.length - (intOf i).toNat)
  case atStart => exact ⟨0, Nat.zero_le _, rfl, fun i _ h => absurd h (by omega), Below.refl _ _⟩
  case round =>
    obtain ⟨k, hk, rfl, HV, hb⟩ := hrel
    by_cases hlt : k < xs.length
    · obtain ⟨ad, rfl, hbl, hc0, hc1, hc2, hc3⟩ := (H.out.ext hb).at hlt
      have HX := hd (ext_alloc (Below.refl wr.heap.size wr) (.cells #[.int .i64 xs[k].1, .int .i64 xs[k].2.1, .int .i64 xs[k].2.2.1, .int .i64 xs[k].2.2.2] 30))
      have hn : k = (xs.take k).length := by rw [List.length_take]; omega
      have HC := hd (cfL_any (some ad) k c (xs.take k) xs[k] wr.heap.size _ (SlL.take (H.out.ext (ext_trans hb HX.out)) hk) (Lx.new wr xs[k]) hn)
      clear hn
      cases h1 : inB xs[k].1 0 5 with
      | false =>
        have HV' := hd (vl_bad1 hlt (by simp only [okL, h1, Bool.false_and]))
        go_wp2_with (go_at_call 24; refine (isConn_any _ _).mono ?_; rintro e w' ⟨rfl, rfl⟩)
        go_ret
        exact ⟨by rw [HV'.out]; rfl, ext_trans hb HX.out⟩
      | true =>
        cases h2 : inB xs[k].2.1 0 4 with
        | false =>
          have HV' := hd (vl_bad1 hlt (by simp only [okL, h2, Bool.false_and, Bool.and_false]))
          go_wp2_with (first | (go_at_call 24; refine (isConn_any _ _).mono ?_; rintro e w' ⟨rfl, rfl⟩) | (go_at_call 25; refine (isOwnerL_any _ _).mono ?_; rintro e w' ⟨rfl, rfl⟩))
          go_ret
          exact ⟨by rw [HV'.out]; rfl, ext_trans hb HX.out⟩
        | true =>
          cases h3 : inB xs[k].2.2.1 0 999 with
          | false =>
            have HV' := hd (vl_bad1 hlt (by simp only [okL, h3, Bool.false_and, Bool.and_false]))
            go_wp2_with (first | (go_at_call 24; refine (isConn_any _ _).mono ?_; rintro e w' ⟨rfl, rfl⟩) | (go_at_call 25; refine (isOwnerL_any _ _).mono ?_; rintro e w' ⟨rfl, rfl⟩) | (go_at_call 26; refine (in_any _ _ _ _).mono ?_; rintro e w' ⟨rfl, rfl⟩))
            go_ret
            exact ⟨by rw [HV'.out]; rfl, ext_trans hb HX.out⟩
          | true =>
            have hw : IntKind.i64.wrap (xs[k].2.2.1 + 1) = xs[k].2.2.1 + 1 := by
              have := inB_iff.1 h3
              rw [IntKind.wrap_i64]; omega
            cases h4 : inB xs[k].2.2.2 (xs[k].2.2.1 + 1) 1000 with
            | false =>
              have HV' := hd (vl_bad1 hlt (by simp only [okL, h4, Bool.and_false]))
              go_wp2_with (first | (go_at_call 24; refine (isConn_any _ _).mono ?_; rintro e w' ⟨rfl, rfl⟩) | (go_at_call 25; refine (isOwnerL_any _ _).mono ?_; rintro e w' ⟨rfl, rfl⟩) | (go_at_call 26; refine (in_any _ _ _ _).mono ?_; rintro e w' ⟨rfl, rfl⟩))
              go_ret
              exact ⟨by rw [HV'.out]; rfl, ext_trans hb HX.out⟩
            | true =>
              cases h5 : (xs.take k).any (fun y => clB y xs[k]) with
              | true =>
                have HV' := hd (vl_bad2 hlt h5)
                rw [h5] at HC
                clear h5
                go_wp2_with (first | (go_at_call 24; refine (isConn_any _ _).mono ?_; rintro e w' ⟨rfl, rfl⟩) | (go_at_call 25; refine (isOwnerL_any _ _).mono ?_; rintro e w' ⟨rfl, rfl⟩) | (go_at_call 26; refine (in_any _ _ _ _).mono ?_; rintro e w' ⟨rfl, rfl⟩) | (go_at_call 27; refine HC.out.mono ?_; rintro e w7 ⟨rfl, hx⟩))
                go_ret
                exact ⟨by rw [HV'.out]; rfl, ext_trans (ext_trans hb HX.out) hx⟩
              | false =>
                have HV' := hd (vl_step hlt HV.out (by simp only [okL, h1, h2, h3, h4, Bool.and_self]) h5)
                rw [h5] at HC
                clear h5
                go_wp2_with (first | (go_at_call 24; refine (isConn_any _ _).mono ?_; rintro e w' ⟨rfl, rfl⟩) | (go_at_call 25; refine (isOwnerL_any _ _).mono ?_; rintro e w' ⟨rfl, rfl⟩) | (go_at_call 26; refine (in_any _ _ _ _).mono ?_; rintro e w' ⟨rfl, rfl⟩) | (go_at_call 27; refine HC.out.mono ?_; rintro e w7 ⟨rfl, hx⟩))
                go_roundw
                case rel => exact ⟨k + 1, by omega, by go_num, HV', ext_trans (ext_trans hb HX.out) hx⟩
                case measure => simp [intOf]; omega
    · obtain rfl : k = xs.length := by omega
      have HV' := hd (vl_end HV.out)
      go_wp2
      go_ret
      exact ⟨by rw [HV'.out, show decide (xs.length ≤ 12) = decide ((xs.length : Int) ≤ 12) from decide_eq_decide.2 (by omega)]; rfl, hb⟩
/-- Leases handed back in new memory. -/
def NewL (zs : List Le) (w : World) (r : Ending) (w' : World) : Prop :=
  ∃ A c, r = .returned (.slice A zs.length c) ∧ RwL w' w.heap.size A c zs ∧ Below w.heap.size w w'
theorem rwL_nil (w : World) (B : Nat) (A : Option Addr) (c : Nat) (hc : c ≤ maxLen) : RwL w B A c [] := rw_nil w B _ 4 A c hc
set_option maxHeartbeats 400000 in
theorem cloneL0_any (A : Option Addr) (c : Nat) (xs : List Le) (w : World) (h : SlL w A c xs) (hl : xs.length ≤ 1048576) :
    Calls Try.prog 33 #[.slice A xs.length c] w (NewL xs w) := by
  have hn := fun (W : World) (n : Nat) => Lib.run_eql_slice_nil (P := Try.prog) W 23 30 A n c 0 0 Try.underlying23
  cases A with
  | none =>
    have h0 : xs = [] := by
      rcases Nat.eq_zero_or_pos xs.length with h0 | h0
      · exact List.eq_nil_of_length_eq_zero h0
      · obtain ⟨ad, e, _⟩ := Sl.addr h h0
        cases e
    subst h0
    go_enter Try.func33, Try.ntmps33
    go_wp2
    go_ret
    exact ⟨none, 0, rfl, rwL_nil _ _ _ _ (by decide), Below.refl _ _⟩
  | some ad =>
    have ho := hd (own_made w 30 4 [] 0 rfl (by decide))
    have hs := hd (Sl.alloc h (.cells #[] 30))
    go_enter Try.func33, Try.ntmps33
    go_wp2_with (at_builtin; refine wpList_apps eltLe _ _ ho.out hs.out (cle_one _) (by omega) (by omega) (by simp) (by rfl) (by rfl) (by rfl) (by rfl) ?_; intro v' w2 hown2 hg2)
    go_ret
    obtain ⟨A2, c2, rfl, hr⟩ := rwL_of_own hown2 (by simp : [] ++ cle xs = cle xs) (by omega)
    exact ⟨A2, c2, rfl, hr, (ext_alloc (Below.refl _ _) _).grown hg2 (by simp) (by intro k hk; simp [Value.ownBlock] at hk; omega)⟩
theorem clipL_any (A : Option Addr) (n c : Nat) (w : World) (h : n ≤ c) (hc : c ≤ maxLen) :
    Calls Try.prog 32 #[.slice A n c] w fun e w' => e = .returned (.slice A n n) ∧ w = w' := by
  unfold maxLen at hc
  go_enter Try.func32, Try.ntmps32
  go_wp2
  go_ret
  exact ⟨rfl, rfl⟩
set_option maxHeartbeats 400000 in
theorem cloneL_any (A : Option Addr) (c : Nat) (xs : List Le) (w : World) (h : SlL w A c xs) (hl : xs.length ≤ 1048576) :
    Calls Try.prog 12 #[.slice A xs.length c] w (NewL xs w) := by
  go_enter Try.func12, Try.ntmps12
  go_wp2_with fail
  refine (cloneL0_any A c xs w h hl).mono ?_
  rintro e w1 ⟨A2, c2, rfl, hr, hb⟩
  have r1 := Sl.cap hr.1
  have r2 := Sl.max hr.1
  have HR := hd (Rw.clip hr)
  clear hr
  go_wp2_with fail
  refine (clipL_any _ _ _ _ r1 r2).mono ?_
  rintro e w' ⟨rfl, rfl⟩
  go_wp2
  go_ret
  exact ⟨A2, xs.length, rfl, HR.out, hb⟩
set_option maxHeartbeats 1000000 in
theorem svl1_any (x : Le) (w : World) :
    Calls Try.prog 37 #[.agg #[.int .i64 x.1, .int .i64 x.2.1, .int .i64 x.2.2.1, .int .i64 x.2.2.2]] w fun e w' => e = .returned (.bool (okL x)) ∧ Below w.heap.size w w' := by
  cases h1 : inB x.1 0 5 with
  | false =>
    have HV' := hd (show okL x = false by simp only [okL, h1, Bool.false_and])
    go_enter Try.func37, Try.ntmps37
    go_wp2_with (go_at_call 45; refine (inr_any _ _ _ _).mono ?_; rintro e w' ⟨rfl, rfl⟩)
    go_ret
    exact ⟨by rw [HV'.out]; rfl, ext_alloc (Below.refl _ _) _⟩
  | true =>
    cases h2 : inB x.2.1 0 4 with
    | false =>
      have HV' := hd (show okL x = false by simp only [okL, h2, Bool.false_and, Bool.and_false])
      go_enter Try.func37, Try.ntmps37
      go_wp2_with (go_at_call 45; refine (inr_any _ _ _ _).mono ?_; rintro e w' ⟨rfl, rfl⟩)
      go_ret
      exact ⟨by rw [HV'.out]; rfl, ext_alloc (Below.refl _ _) _⟩
    | true =>
      cases h3 : inB x.2.2.1 0 999 with
      | false =>
        have HV' := hd (show okL x = false by simp only [okL, h3, Bool.false_and, Bool.and_false])
        go_enter Try.func37, Try.ntmps37
        go_wp2_with (go_at_call 45; refine (inr_any _ _ _ _).mono ?_; rintro e w' ⟨rfl, rfl⟩)
        go_ret
        exact ⟨by rw [HV'.out]; rfl, ext_alloc (Below.refl _ _) _⟩
      | true =>
        have hw : IntKind.i64.wrap (x.2.2.1 + 1) = x.2.2.1 + 1 := by
          have := inB_iff.1 h3
          rw [IntKind.wrap_i64]; omega
        cases h4 : inB x.2.2.2 (x.2.2.1 + 1) 1000 with
        | false =>
          have HV' := hd (show okL x = false by simp only [okL, h4, Bool.and_false])
          go_enter Try.func37, Try.ntmps37
          go_wp2_with (go_at_call 45; refine (inr_any _ _ _ _).mono ?_; rintro e w' ⟨rfl, rfl⟩)
          go_ret
          exact ⟨by rw [HV'.out]; rfl, ext_alloc (Below.refl _ _) _⟩
        | true =>
          have HV' := hd (show okL x = true by simp only [okL, h1, h2, h3, h4, Bool.and_self])
          go_enter Try.func37, Try.ntmps37
          go_wp2_with (go_at_call 45; refine (inr_any _ _ _ _).mono ?_; rintro e w' ⟨rfl, rfl⟩)
          go_ret
          exact ⟨by rw [HV'.out]; rfl, ext_alloc (Below.refl _ _) _⟩
end Go.Proofs.Ytkkikpmelpjllaa
