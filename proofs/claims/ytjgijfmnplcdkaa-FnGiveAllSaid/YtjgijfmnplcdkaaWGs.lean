/- Contracts on shares: GiveAll of the reference. -/
import Derived.Test.YtjgijfmnplcdkaaWGa
namespace Go.Proofs.Ytjgijfmnplcdkaa
open Go.RowKit
theorem NO_eq {t : Int} {xs zs lf : List Int} (hv : VSh t xs zs = true) (hl : lf.length ≤ 12) (hq : allL lf 0 4 = true) : NO t xs zs lf = NX t xs zs lf := if_pos (by simp only [askB, hv, hq, decide_eq_true hl, Bool.true_and])
theorem copyIntsON_any (A : Option Addr) (n c : Nat) (xs : List Int) (w : World) (h : SlI w A c xs) (hn : n = xs.length) (hl : xs.length ≤ 1048576) :
    Calls Try.prog 23 #[.slice A n c] w (OwnI xs w) := by
  subst hn; exact copyIntsO_any A c xs w h hl
set_option maxRecDepth 100000 in
set_option maxHeartbeats 4000000 in
theorem sga_any (t : Int) (A : Option Addr) (c : Nat) (xs : List Int) (B : Option Addr) (d : Nat) (ys : List Int) (E : Option Addr) (f : Nat) (asks : List Int) (w : World) (h : SlI w A c xs) (h' : SlI w B d ys) (ha : SlI w E f asks) :
    Calls Try.prog 9 #[.agg #[.int .i64 t, .slice A xs.length c, .slice B ys.length d], .slice E asks.length f] w (NewI (GALL t xs ys asks) w) := by
  have hmaxa := ha.max
  have hcapa := ha.cap
  unfold maxLen at hmaxa
  obtain ⟨W0, hW0⟩ : ∃ W0, W0 = w.alloc (.cells #[.int .i64 t, .slice A xs.length c, .slice B ys.length d] 25) := ⟨_, rfl⟩
  have hb0 : Below w.heap.size w W0 := by rw [hW0]; exact ext_alloc (Below.refl _ _) _
  have hx0 : Bx W0 w.heap.size (.int .i64 t) (.slice A xs.length c) (.slice B ys.length d) := by rw [hW0]; exact Bx.new w _ _ _
  have hlt0 := hx0.lt
  obtain ⟨W1, hW1⟩ : ∃ W1, W1 = W0.alloc (.cells #[] 3) := ⟨_, rfl⟩
  have hx1 : Below W0.heap.size W0 W1 := by rw [hW1]; exact ext_alloc (Below.refl _ _) _
  have hsz : W0.heap.size = w.heap.size + 1 := by rw [hW0]; simp
  have ho1 : W1.ownsRow (w.heap.size + 1) 3 1 (.slice (some ⟨w.heap.size + 1, 0, none⟩) 0 0) 0 [] := by have := own_made W0 3 1 [] 0 rfl (by decide); rw [hsz] at this; rw [hW1]; exact this
  have hlt1 : W0.heap.size < W1.heap.size := by rw [hW1]; simp
  have hb1 := hb0.trans (hx1.mono hb0.size)
  have s0 := h.ext hb1
  have s0' := h'.ext hb1
  have sa := ha.ext hb1
  have bx1 := hx0.ext hx1
  have b0 := bx1.c0
  have b1 := bx1.c1
  have b2 := bx1.c2
  have HX0 := hd bx1
  have HB0 := hd hb0
  have HB1 := hd hx1
  have HO := hd ho1
  have HH := hd (And.intro h (And.intro h' ha))
  have HSZ := hd hsz
  clear hsz hb0 hx0 h h' ha bx1 hx1 ho1 hb1
  have HST : Hid (∀ (e : Ending) (w' : World), GALL t xs ys asks = [] → e = .returned (.slice none 0 0) → Below W1.heap.size W1 w' → NewI (GALL t xs ys asks) w e w') := hd (fun e w' h1 h2 h3 => by
    subst h2; exact gaNil h1 (HB0.out.trans ((ext_trans HB1.out h3).mono HB0.out.size)))
  cases hv : VSh t xs ys with
  | false =>
    have HR := hd (GALL_no (askB_no1 (asks := asks) hv))
    go_enter Try.func9, Try.ntmps9
    go_wp2_with fail
    rw [← hW0, ← hW1]
    clear hW0 hW1
    refine (svsh_any _ _ _ _ _ _ _ _ s0 s0').mono ?_
    rintro e w1 ⟨rfl, hx⟩
    rw [hv]
    go_wp2
    go_ret
    exact HST.out _ _ HR.out rfl hx
  | true =>
    by_cases h2 : asks.length ≤ 12
    · have g2 : decide ((12 : Int) < (asks.length : Int)) = false := decide_eq_false (by omega)
      have g2' : decide (12 < asks.length) = false := decide_eq_false (by omega)
      cases h3 : allL asks 0 4 with
      | false =>
        have HR := hd (GALL_no (show askB t xs ys asks = false by rw [askB_eq hv h2, h3]))
        go_enter Try.func9, Try.ntmps9
        go_wp2_with fail
        rw [← hW0, ← hW1]
        clear hW0 hW1
        refine (svsh_any _ _ _ _ _ _ _ _ s0 s0').mono ?_
        rintro e w1 ⟨rfl, hx⟩
        rw [hv]
        have sa1 := sa.ext hx
        go_wp2_with fail
        refine (sAllIn_any _ _ _ _ _ _ sa1).mono ?_
        rintro e w2 ⟨rfl, rfl⟩
        rw [h3]
        go_wp2
        go_ret
        exact HST.out _ _ HR.out rfl hx
      | true =>
        have HR := hd (GALL_ok (show askB t xs ys asks = true by rw [askB_eq hv h2, h3]))
        have HV := hd hv
        have HQ := hd h3
        go_enter Try.func9, Try.ntmps9
        go_wp2_with fail
        rw [← hW0, ← hW1]
        clear hW0 hW1
        refine (svsh_any _ _ _ _ _ _ _ _ s0 s0').mono ?_
        rintro e w1 ⟨rfl, hx⟩
        rw [hv]
        have sa1 := sa.ext hx
        have HX := hd hx
        clear hx sa s0 s0' b0 b1 b2 hv
        go_wp2_with fail
        refine (sAllIn_any _ _ _ _ _ _ sa1).mono ?_
        rintro e w2 ⟨rfl, rfl⟩
        rw [h3]
        clear h3
        go_wp2_with fail
        refine (copyInts_any E f asks _ sa1 (by omega)).mono ?_
        rintro e w2 ⟨F, f', rfl, rF, hx⟩
        have hw1 := HX.out.size
        have S0 := gaS_start HB0.out hlt0 (ext_trans HB1.out (ext_trans HX.out hx)) HH.out.1 HH.out.2.1 (HX0.out.ext (ext_trans HX.out hx)) (rF.low (by omega)) (own_mono (own_ext HO.out (ext_trans HX.out hx)) (by omega)) (fun j hj => by
          have e : w.heap.size + 1 = j := by injection hj
          subst e
          exact ⟨by omega, fun e => by have := (Rw.row rF _ e).1; have := HSZ.out; omega⟩)
        have c0 := S0.bx.c0; have c1 := S0.bx.c1; have c2 := S0.bx.c2
        clear hx sa1 HX HX0 HB0 HH rF HB1 HO HST
        go_wp2_with fail
        refine (sno_any t A c xs B d ys F f' asks w2 S0.sx S0.sy S0.fl.sl).mono ?_
        rintro e w3 ⟨rfl, hx⟩
        rw [NO_eq HV.out h2 HQ.out]
        replace S0 := S0.ext hx
        clear hx c0 c1 c2
        go_wp2_with fail
        go_loopw [5, 6, 7, 8] (fun o l at_ _ wr => ∃ (F : Option Addr) (f : Nat) (lf us zs : List Int) (A : Option Addr) (c : Nat) (B : Option Addr) (d : Nat), l = .slice F lf.length f ∧ at_ = .int .i64 (NX t xs zs lf) ∧ lf.length + us.length = asks.length ∧ Hid (GALL t xs ys asks = us ++ GA t xs lf.length zs lf) ∧ Hid (VSh t xs zs = true) ∧ Hid (allL lf 0 4 = true) ∧ GaS w wr t xs zs lf us F f o A c B d) (fun _ l _ _ _ => lenOf l)
        case atStart => exact ⟨F, f', asks, [], ys, A, c, B, d, rfl, rfl, rfl, HR.out, HV.out, HQ.out, S0⟩
        case round =>
          clear S0 HR HV HQ g2 g2'
          obtain ⟨F, f, lf, us, zs, A, c, B, d, rfl, rfl, hls, HG, HV, HQ, S⟩ := hrel
          have hmf := S.fl.sl.max
          have hcf := S.fl.sl.cap
          unfold maxLen at hmf
          rcases NX_cases t xs zs lf with e | ⟨j, G⟩
          · rw [e]
            have HE := hd (show GALL t xs ys asks = us by rw [HG.out, GA_stop (by rw [e]; decide), List.append_nil])
            obtain ⟨P, p, rfl, r⟩ := rwI_of_own S.own rfl rfl
            clear e HG
            go_wp2
            go_ret
            rw [HE.out]
            exact ⟨P, p, rfl, r, S.be⟩
          · rw [G.nx]
            have hj := G.lt
            obtain ⟨hv', hAD⟩ := G.give HV.out HQ.out
            have HN := hd (HG.out.trans (GA_next G))
            have hr0 := allL_at0 HQ.out hj
            obtain ⟨o, ho⟩ : ∃ o : Nat, at0 lf j = (o : Int) := ⟨(at0 lf j).toNat, by omega⟩
            rw [ho, Int.toNat_natCast] at hv' HN
            have hon : o < 5 := by omega
            obtain ⟨zs', hzs'⟩ : ∃ zs', chg zs o 1 = zs' := ⟨_, rfl⟩
            rw [hzs'] at hv' HN
            have HZ := hd hzs'
            have HV' := hd hv'
            have HQ' := hd (allL_erase HQ.out j)
            obtain ⟨lf', hlf'⟩ : ∃ lf', lf.eraseIdx j = lf' := ⟨_, rfl⟩
            have hle0 : (lf.eraseIdx j).length = lf.length - 1 := List.length_eraseIdx_of_lt hj
            rw [hlf'] at HQ' HN hle0
            have HLE := hd (show lf'.length + 1 = lf.length by omega)
            have hle1 : lf'.length ≤ 12 := by omega
            have HL' := hd hlf'
            have gj : decide ((0 : Int) ≤ (j : Int)) = true := decide_eq_true (by omega)
            obtain ⟨ad, rfl, -, -⟩ := SlI.at S.fl.sl hj
            have a0 := SlI.atN S.fl.sl hj
            rw [ho] at a0
            have HO := hd ho
            clear hv' hAD hzs' HG G hr0 ho hlf' hle0
            go_wp2_with (at_builtin; refine wpList_app_at eltI _ _ (news := ci [(o : Int)]) (m := 1) S.own rfl (ci_one _) (by omega) (by omega) S.be.size (by rfl) (by rfl) (by rfl) (by rfl) ?_; intro v' w4 hown4 hg4 hv4)
            have S4 := S.app hown4 hg4 hv4
            clear S hown4 hg4 hv4 a0
            have S5 : GaS w w4.drew t xs zs lf (us ++ [(o : Int)]) (some ad) f v' A c B d := S4.ext (ext_drew (Below.refl _ _))
            have b0 := S4.bx.c0
            have b1 := S4.bx.c1
            have b2 := S4.bx.c2
            have a0 := SlI.atN S4.fl.sl hj
            rw [HO.out] at a0
            have CON := hd (give_any t A c xs B d zs zs' o 1 w4.drew S5.sx S5.sy HV.out hon (by omega) (by omega) HZ.out)
            have HS := hd S5
            clear HZ HV HQ S4 S5
            go_cut [] (fun wx => ∃ P p R q, GaS w wx t xs zs' lf (us ++ [(o : Int)]) (some ad) f v' P p R q)
            case first =>
              go_region_with (first | ((with_reducible refine CON.out.mono ?_); rintro e w5 ⟨P, p, R, q, rfl, rP, rQ, -, hx⟩; have bx5 := HS.out.bx.ext hx; have z0 := bx5.c0; have z1 := bx5.c1; have z2 := bx5.c2; have y0 := bx5.free 0; have y1 := bx5.free 1; have y2 := bx5.free 2; have FIN := hd (HS.out.put hx rP rQ); clear bx5 hx rP rQ) | fail)
              all_goals (go_wp2_with fail; go_meet; exact ⟨P, p, R, q, FIN.out⟩)
            case rest =>
              obtain ⟨P, p, R, q, S6⟩ := hcut
              clear HS CON a0 b0 b1 b2
              have hjf : j ≤ f := by omega
              have hjl : j ≤ lf.length := by omega
              have hlt' : j + 1 ≤ lf.length := by omega
              have hz6 := S6.be.size
              have hwr : IntKind.i64.wrap ((j : Int) + 1) = (j : Int) + 1 := by rw [IntKind.wrap_i64]; omega
              have hp0 : (0 : Int) ≤ (j : Int) + 1 := by omega
              have hp1 : (j : Int) + 1 ≤ (lf.length : Int) := by omega
              have hp2 : ((j : Int) + 1).toNat = j + 1 := by omega
              go_wp2_with fail
              refine (copyIntsON_any (some ad) j f (lf.take j) wc (S6.fl.sl.take hjl) (by rw [List.length_take]; omega) (by rw [List.length_take]; omega)).mono ?_
              rintro e w7 ⟨v7, rfl, hown7, hx7⟩
              obtain ⟨A', hA', hdr⟩ : ∃ A', (if f = j + 1 then some ad else some (⟨ad.block, ad.off + (j + 1), none⟩ : Addr)) = A' ∧ Sl w7 1 A' (lf.length - (j + 1)) (f - (j + 1)) (ci (lf.drop (j + 1))) := by
                have h1 := SlI.drop (S6.fl.sl.ext hx7) hlt'
                refine ⟨_, rfl, ?_⟩
                unfold SlI at h1
                rw [List.length_drop] at h1
                have ea : ad.add ((j + 1) * 1) = ⟨ad.block, ad.off + (j + 1), none⟩ := by rw [Nat.mul_one]; unfold Addr.add; rw [if_neg (by omega)]
                simpa only [Option.map_some, ea] using h1
              have HOW := hd hown7
              have HDR := hd hdr
              have hz7 := hx7.size
              have hlen : (lf.take j).length ≤ 12 := by rw [List.length_take]; omega
              clear hown7 hdr
              go_wp2_with (at_builtin; refine wpList_apps eltI _ _ HOW.out HDR.out (ci_one _) (by omega) (by omega) hz7 (by rfl) (by rfl) (by rfl) (by rfl) ?_; intro v8 w8 hown8 hg8; have hx8 : Below wc.heap.size wc w8 := hx7.grown hg8 hz7 (own_ge HOW.out); obtain ⟨F2, f2, rfl, r8⟩ := rwI_of_own (zs := lf') hown8 (by rw [← HL'.out, ← ci_append, List.eraseIdx_eq_take_drop_succ]) (by have := HLE.out; rw [List.length_take]; omega); have S8 := S6.left hx8 r8; have c0 := S8.bx.c0; have c1 := S8.bx.c1; have c2 := S8.bx.c2)
              refine (sno_any t P p xs R q zs' F2 f2 lf' w8 S8.sx S8.sy S8.fl.sl).mono ?_
              rintro e w9 ⟨rfl, hx⟩
              rw [NO_eq HV'.out hle1 HQ'.out]
              have S9 := S8.ext hx
              clear S8 S6 hx c0 c1 c2 hx7 hx8 HOW HDR hown8 hg8 r8
              go_wp2
              go_roundw
              case rel => exact ⟨F2, f2, lf', us ++ [(o : Int)], zs', P, p, R, q, rfl, rfl, by have := HLE.out; rw [List.length_append]; simp; omega, hd (by rw [HN.out]), HV', HQ', S9⟩
              case measure => have := HLE.out; simp [lenOf]; omega
    · have g2 : decide ((12 : Int) < (asks.length : Int)) = true := decide_eq_true (by omega)
      have g2' : decide (12 < asks.length) = true := decide_eq_true (by omega)
      have HR := hd (GALL_no (askB_no2 (t := t) (xs := xs) (ys := ys) h2))
      go_enter Try.func9, Try.ntmps9
      go_wp2_with fail
      rw [← hW0, ← hW1]
      clear hW0 hW1
      refine (svsh_any _ _ _ _ _ _ _ _ s0 s0').mono ?_
      rintro e w1 ⟨rfl, hx⟩
      rw [hv]
      go_wp2
      go_ret
      exact HST.out _ _ HR.out rfl hx
end Go.Proofs.Ytjgijfmnplcdkaa
