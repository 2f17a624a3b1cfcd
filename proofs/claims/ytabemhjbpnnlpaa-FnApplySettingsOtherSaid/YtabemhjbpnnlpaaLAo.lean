/- The walk of laws.FnApplySettingsOther. -/
import Derived.Test.YtabemhjbpnnlpaaLAp
namespace Go.Proofs.Ytabemhjbpnnlpaa
open Go.RowKit
theorem eltI : Elt Try.prog 41 3 (.int .i64 0) 1 8 := ⟨Try.underlying41, by kernel_rfl, rfl, by decide⟩
theorem slI_of_own {w : World} {base n : Nat} {e : TypeId} {v : Value} {xs : List Value} {zs : List Int} (h : w.ownsRow base e 1 v n xs) (hx : xs = ci zs) (hn : n = zs.length) :
    ∃ A c, v = .slice A zs.length c ∧ SlI w A c zs ∧ (∀ ad, A = some ad → base ≤ ad.block) := by
  subst hx hn
  exact Sl.of_own h
/-- Those that no number names, of the first k. -/
def oth (ns : List Int) (xs : List St) : List St := xs.filter fun s => !(inL ns s.1)
theorem oth_take (ns : List Int) (xs : List St) (k : Nat) (h : k < xs.length) : oth ns (xs.take (k + 1)) = oth ns (xs.take k) ++ (if inL ns xs[k].1 = true then [] else [xs[k]]) := by
  unfold oth
  rw [List.take_succ_eq_append_getElem h, List.filter_append]
  congr 1
  by_cases hp : inL ns xs[k].1 = true <;> simp [hp]
theorem oth_len (ns : List Int) (xs : List St) (k : Nat) : (oth ns (xs.take k)).length ≤ k := Nat.le_trans (List.length_filter_le _ _) (by rw [List.length_take]; omega)
theorem oth_same {xs cs zs : List St} (h : appS xs cs = some zs) : oth (cs.map (·.1)) xs = oth (cs.map (·.1)) zs := by
  have := appS_other h
  unfold oth inL
  exact this
theorem own_not {v v' : Value} {b z : Nat} (h : v.ownBlock ≠ some b) (hat : v'.ownBlock = v.ownBlock ∨ ∃ g, v'.ownBlock = some g ∧ z ≤ g) (hb : b < z) : v'.ownBlock ≠ some b := by
  rcases hat with e | ⟨g, e, hg⟩
  · rw [e]; exact h
  · rw [e]; intro e'; injection e' with e'; omega
theorem Sl.keepAny {w w' : World} {k n c : Nat} {row : Option Nat} {A : Option Addr} {xs : List Value} (h : Sl w k A n c xs) (hg : w.grownBy w' row) (hA : 0 < n → ∀ ad, A = some ad → row ≠ some ad.block) : Sl w' k A n c xs :=
  ⟨h.1, h.2.1, h.2.2.1, fun hn => by
    obtain ⟨ad, e, hb, hc⟩ := h.addr hn
    exact ⟨ad, e, Nat.lt_of_lt_of_le hb hg.size, fun j u hu => hg.cell (hc j u hu) (by rw [blk_add]; exact fun e' => hA hn ad e e'.symm)⟩⟩
theorem own_two {v v' : Value} {b z z0 : Nat} (h : ∀ g, v.ownBlock = some g → g = b ∨ z0 ≤ g) (hat : v'.ownBlock = v.ownBlock ∨ ∃ g, v'.ownBlock = some g ∧ z ≤ g) (hz : z0 ≤ z) : ∀ g, v'.ownBlock = some g → g = b ∨ z0 ≤ g := by
  intro g hg
  rcases hat with e | ⟨g', e, hg'⟩
  · exact h g (by rw [← e]; exact hg)
  · rw [e] at hg; injection hg with hg; omega
set_option maxHeartbeats 2000000 in
theorem lawApplySettingsOther (A : Option Addr) (n c : Nat) (w : World) (h : SlB w A n c) :
    Calls Try.prog 13 #[.slice A n c] w fun e w' => e = .returned (.bool true) ∧ Below w.heap.size w w' := by
  by_cases hn : 1048576 < n
  · go_enter Try.func13, Try.ntmps13
    go_wp2
    go_ret
    exact ⟨rfl, Below.refl _ _⟩
  · go_enter Try.func13, Try.ntmps13
    go_wp2_with fail
    refine (drawApplySettings_any A n c w h).mono ?_
    rintro e w1 ⟨B, B', d, d', xs, cs, rfl, s1, s2, hl1, hl2, hb⟩
    have hm1 := s1.max
    have hc1 := s1.cap
    unfold maxLen at hm1
    have hm2 := s2.max
    have hc2 := s2.cap
    unfold maxLen at hm2
    cases ho : appS xs cs with
    | some zs =>
      have HO := hd ho
      have HE := eqL_self zs
      have hz10 := VS_len (appS_valid ho)
      have HS := hd (oth_same ho)
      clear ho
      go_wp2_with fail
      refine (app_yes HO.out s1 s2).mono ?_
      rintro e w1 ⟨P, p, rfl, r, hx⟩
      replace s1 := s1.ext hx; replace s2 := s2.ext hx; replace hb := ext_trans hb hx; clear hx
      go_wp2_with fail
      refine (sapp_yes HO.out s1 s2).mono ?_
      rintro e w1 ⟨Q, q, rfl, t, hx⟩
      replace r := r.ext hx; replace s1 := s1.ext hx; replace s2 := s2.ext hx; replace hb := ext_trans hb hx; clear hx
      go_wp2_with fail
      refine (equalSettings_any _ _ _ _ _ _ _ r t).mono ?_
      rintro e w1 ⟨rfl, hx⟩
      replace r := r.ext hx; replace s1 := s1.ext hx; replace s2 := s2.ext hx; replace hb := ext_trans hb hx; clear hx
      have hrm := r.max
      have hrc := r.cap
      unfold maxLen at hrm
      have R0 := hd r
      have S1 := hd s1
      have S2 := hd s2
      have HB := hd hb
      have ho1 := hd (own_made w1 3 1 [] 0 rfl (by decide))
      clear r s1 s2 t hb
      go_wp2_with fail
      go_loopw [9, 10] (fun v i wr => ∃ k : Nat, k ≤ cs.length ∧ i = .int .i64 k ∧ wr.ownsRow w1.heap.size 3 1 v k (ci ((cs.take k).map (·.1))) ∧ Below w1.heap.size w1 wr) (fun _ i _ => cs.length - (intOf i).toNat)
      case atStart => exact ⟨0, by omega, rfl, ho1.out, (Below.refl _ _).alloc (Nat.le_refl _) _⟩
      case round =>
        obtain ⟨k, hk, rfl, hown, hbx⟩ := hrel
        by_cases hlt : k < cs.length
        · obtain ⟨ad, rfl, hbl, hc0, hc1⟩ := (S2.out.ext hbx).at hlt
          have HN := hd (show ci ((cs.take (k + 1)).map (·.1)) = ci ((cs.take k).map (·.1)) ++ ci [cs[k].1] by rw [List.take_succ_eq_append_getElem hlt, List.map_append, ci_append]; rfl)
          go_wp2_with (at_builtin; refine wpList_app eltI (.tmp 63) (.tmp 69) (news := ci [cs[k].1]) (m := 1) hown rfl (ci_one _) (by omega) (by omega) hbx.size (by rfl) (by rfl) (by rfl) (by rfl) ?_; intro v' w3 hown3 hg3)
          go_roundw
          case rel => exact ⟨k + 1, by omega, by go_num, by rw [HN.out]; exact hown3, hbx.grown hg3 hbx.size (own_ge hown)⟩
          case measure => simp [intOf]; omega
        · obtain rfl : k = cs.length := by omega
          obtain ⟨N, nc, rfl, hns, _⟩ := slI_of_own (zs := cs.map (·.1)) hown (by rw [List.take_length]) (by rw [List.length_map])
          obtain ⟨wo, rfl⟩ : ∃ wo : World, wo = wr := ⟨_, rfl⟩
          obtain ⟨ns, hnse⟩ : ∃ ns, ns = cs.map (·.1) := ⟨_, rfl⟩
          rw [← hnse] at hns HS ⊢
          have NS := hd hns
          have R1 := hd (R0.out.ext hbx)
          have S1' := hd (S1.out.ext hbx)
          have HB1 := hd (ext_trans HB.out hbx)
          clear hown hns hbx R0 S1 S2 HB ho1 hnse
          have ha := hd (show (((wo.alloc (.cells #[] 40)).alloc (.cells #[] 40))).ownsRow wo.heap.size 40 2 (.slice (some ⟨wo.heap.size, 0, none⟩) 0 0) 0 [] from (own_made wo 40 2 [] 0 rfl (by decide)).alloc _)
          have hbk := hd (show (((wo.alloc (.cells #[] 40)).alloc (.cells #[] 40))).heap[wo.heap.size + 1]? = some (.cells #[] 40 (0, 0)) by have := heap_alloc_new (wo.alloc (.cells #[] 40)) (.cells #[] 40); rwa [World.size_alloc] at this)
          go_wp2_with fail
          go_loopw [11, 13] (fun v i wr => ∃ k : Nat, k ≤ xs.length ∧ i = .int .i64 k ∧ wr.ownsRow wo.heap.size 40 2 v (oth ns (xs.take k)).length (cst (oth ns (xs.take k))) ∧ Hid (v.ownBlock ≠ some (wo.heap.size + 1)) ∧ wr.heap[wo.heap.size + 1]? = some (.cells #[] 40 (0, 0)) ∧ Below wo.heap.size wo wr) (fun _ i _ => xs.length - (intOf i).toNat)
          case atStart => exact ⟨0, by omega, rfl, ha.out, by simp [Hid, Value.ownBlock], hbk.out, ext_alloc ((Below.refl _ _).alloc (Nat.le_refl _) _) _⟩
          case round =>
            clear ha hbk
            obtain ⟨k, hk, rfl, hown, HV, hblk, hbx⟩ := hrel
            have HK := hd hblk
            have hz1 : wo.heap.size + 1 < wr.heap.size := lt_of_block hblk
            clear hblk
            have n1 := NS.out.ext hbx
            by_cases hlt : k < xs.length
            · obtain ⟨ad, rfl, hbl, hc0, hc1⟩ := (S1'.out.ext hbx).at hlt
              have hol := oth_len ns xs k
              go_wp2_with fail
              refine (isIn_any _ _ _ _ _ n1).mono ?_
              rintro e wx ⟨rfl, rfl⟩
              by_cases hi : inL ns xs[k].1 = true
              · have HT := hd (show oth ns (xs.take (k + 1)) = oth ns (xs.take k) by rw [oth_take ns xs k hlt, if_pos hi]; simp)
                go_wp2_with fail
                go_roundw
                case rel => exact ⟨k + 1, by omega, by go_num, by rw [HT.out]; exact hown, HV, HK.out, hbx⟩
                case measure => simp [intOf]; omega
              · have hi : inL ns xs[k].1 = false := by simpa using hi
                have HT := hd (show oth ns (xs.take (k + 1)) = oth ns (xs.take k) ++ [xs[k]] by rw [oth_take ns xs k hlt, hi]; rfl)
                go_wp2_with (at_builtin; refine wpList_app_at eltS (.tmp 87) (.tmp 92) (news := cst [xs[k]]) (m := 1) hown rfl (cst_one _) (by omega) (by omega) hbx.size (by rfl) (by rfl) (by rfl) (by rfl) ?_; intro v' w3 hown3 hg3 hat3)
                have HAT := hd hat3
                clear hat3
                go_roundw
                case rel => exact ⟨k + 1, by omega, by go_num, by rw [HT.out, cst_append, List.length_append]; exact hown3, hd (own_not HV.out HAT.out hz1), (hg3.block _ hz1 (fun e => HV.out e.symm)).trans HK.out, hbx.grown hg3 hbx.size (own_ge hown)⟩
                case measure => simp [intOf]; omega
            · obtain rfl : k = xs.length := by omega
              rw [List.take_length] at hown
              obtain ⟨A2, c2, rfl, hs2, _⟩ := slS_of_own hown rfl rfl
              obtain ⟨wp, rfl⟩ : ∃ wp : World, wp = wr := ⟨_, rfl⟩
              have NS2 := hd n1
              have HA2 := hd (show ∀ ad, A2 = some ad → ad.block ≠ wo.heap.size + 1 from fun ad e e' => HV.out (by rw [e]; simp [Value.ownBlock, e']))
              have A3 := hd hs2
              have HX := hd hbx
              have hz2 : wo.heap.size + 1 < wp.heap.size := hz1
              have ob := hd (show wp.ownsRow (wo.heap.size + 1) 40 2 (.slice (some ⟨wo.heap.size + 1, 0, none⟩) 0 0) 0 [] from ⟨rfl, .inr ⟨wo.heap.size + 1, 0, #[], rfl, Nat.le_refl _, HK.out, Nat.le_refl _, Nat.zero_le _, rfl, rfl⟩⟩)
              clear hown hs2 hbx n1 S1' HV HK hz1
              go_wp2_with fail
              go_loopw [12, 14] (fun v i wr => ∃ k : Nat, k ≤ zs.length ∧ i = .int .i64 k ∧ wr.ownsRow (wo.heap.size + 1) 40 2 v (oth ns (zs.take k)).length (cst (oth ns (zs.take k))) ∧ Hid (∀ g, v.ownBlock = some g → g = wo.heap.size + 1 ∨ wp.heap.size ≤ g) ∧ Hid (SlS wr A2 c2 (oth ns xs)) ∧ wp.heap.size ≤ wr.heap.size ∧ Below wo.heap.size wo wr) (fun _ i _ => zs.length - (intOf i).toNat)
              case atStart => exact ⟨0, by omega, rfl, ob.out, fun g e => .inl (by simpa [Value.ownBlock] using e.symm), A3.out, Nat.le_refl _, HX.out⟩
              case round =>
                clear ob HX
                obtain ⟨k, hk, rfl, hown, HV, HAS, hzz, hbx⟩ := hrel
                have n1 := NS.out.ext hbx
                have r1 := R1.out.ext hbx
                have hz3 : wo.heap.size + 1 ≤ wr.heap.size := by omega
                by_cases hlt : k < zs.length
                · obtain ⟨ad, rfl, hbl, hc0, hc1⟩ := r1.at hlt
                  have hol := oth_len ns zs k
                  go_wp2_with fail
                  refine (isIn_any _ _ _ _ _ n1).mono ?_
                  rintro e wx ⟨rfl, rfl⟩
                  by_cases hi : inL ns zs[k].1 = true
                  · have HT := hd (show oth ns (zs.take (k + 1)) = oth ns (zs.take k) by rw [oth_take ns zs k hlt, if_pos hi]; simp)
                    go_wp2_with fail
                    go_roundw
                    case rel => exact ⟨k + 1, by omega, by go_num, by rw [HT.out]; exact hown, HV, HAS, hzz, hbx⟩
                    case measure => simp [intOf]; omega
                  · have hi : inL ns zs[k].1 = false := by simpa using hi
                    have HT := hd (show oth ns (zs.take (k + 1)) = oth ns (zs.take k) ++ [zs[k]] by rw [oth_take ns zs k hlt, hi]; rfl)
                    go_wp2_with (at_builtin; refine wpList_app_at eltS (.tmp 108) (.tmp 113) (news := cst [zs[k]]) (m := 1) hown rfl (cst_one _) (by omega) (by omega) hz3 (by rfl) (by rfl) (by rfl) (by rfl) ?_; intro v' w3 hown3 hg3 hat3)
                    have HAT := hd hat3
                    have hz4 := hg3.size
                    clear hat3
                    go_roundw
                    case rel => exact ⟨k + 1, by omega, by go_num, by rw [HT.out, cst_append, List.length_append]; exact hown3, own_two HV.out HAT.out hzz, Sl.keepAny HAS.out hg3 (fun h0 ad e e' => by
                      obtain ⟨ad', e1, e2, _⟩ := Sl.addr A3.out h0
                      have : ad' = ad := by rw [e] at e1; injection e1 with e1; exact e1.symm
                      subst this
                      rcases HV.out _ e' with e3 | e3
                      · exact HA2.out _ e e3
                      · omega), Nat.le_trans hzz hz4, hbx.grown hg3 hbx.size (fun j hj => by have := own_ge hown j hj; omega)⟩
                    case measure => simp [intOf]; omega
                · obtain rfl : k = zs.length := by omega
                  rw [List.take_length] at hown
                  obtain ⟨A4, c4, rfl, hs4, _⟩ := slS_of_own hown rfl rfl
                  have hs2 := HAS.out
                  have HE2 := eqL_self (oth ns zs)
                  have hb := ext_trans HB1.out hbx
                  rw [← HS.out] at HE2 hs4 ⊢
                  clear hown hbx n1 r1 HS HV HAS
                  go_wp2_with fail
                  refine (equalSettings_any _ _ _ _ _ _ _ hs2 hs4).mono ?_
                  rintro e w1 ⟨rfl, hx⟩
                  replace hb := ext_trans hb hx; clear hx
                  go_wp2
                  go_ret
                  exact ⟨rfl, hb⟩
    | none =>
      have HO := hd ho
      have HE := eqL_self []
      clear ho
      go_wp2_with fail
      refine (app_no HO.out s1 s2).mono ?_
      rintro e w1 ⟨P, p, rfl, r, hx⟩
      replace s1 := s1.ext hx; replace s2 := s2.ext hx; replace hb := ext_trans hb hx; clear hx
      go_wp2_with fail
      refine (sapp_no HO.out s1 s2).mono ?_
      rintro e w1 ⟨Q, q, rfl, t, hx⟩
      replace r := r.ext hx; replace s1 := s1.ext hx; replace s2 := s2.ext hx; replace hb := ext_trans hb hx; clear hx
      go_wp2_with fail
      refine (equalSettings_any _ _ _ _ [] [] _ r t).mono ?_
      rintro e w1 ⟨rfl, hx⟩
      replace r := r.ext hx; replace t := t.ext hx; replace hb := ext_trans hb hx; clear hx
      go_wp2_with fail
      refine (equalSettings_any _ _ _ _ [] [] _ r t).mono ?_
      rintro e w1 ⟨rfl, hx⟩
      replace hb := ext_trans hb hx; clear hx
      go_wp2
      go_ret
      exact ⟨rfl, hb⟩
end Go.Proofs.Ytabemhjbpnnlpaa
