/- Contracts: spec.apply, spec.ApplySettings, impl.ApplySettings. -/
import Derived.Test.YtabemhjbpnnlpaaWSt
import Derived.Test.YtabemhjbpnnlpaaWVs
import Derived.Test.YtabemhjbpnnlpaaWRp
namespace Go.Proofs.Ytabemhjbpnnlpaa
open Go.RowKit
/-- The step's values. -/
def stp (xs : List St) (c : St) : Nat → Int := fun n => if (n : Int) = c.1 then c.2 else vof xs n
theorem step1_eq (xs : List St) (c : St) : step1 xs c = buildL (stp xs c) 10 := rfl
set_option maxHeartbeats 1000000 in
theorem apply_any (A : Option Addr) (c : Nat) (xs : List St) (p q : Int) (w : World) (h : SlS w A c xs) :
    Calls Try.prog 48 #[.slice A xs.length c, .agg #[.int .i64 p, .int .i64 q]] w (NewS 40 (step1 xs (p, q)) w) := by
  have H1 := hd h
  clear h
  go_enter Try.func48, Try.ntmps48
  go_wp2
  go_loopw [5, 6, 7] (fun v i y wr => ∃ k : Nat, k ≤ 10 ∧ i = .int .i64 k ∧ wr.ownsRow (w.heap.size + 1) 40 2 v (buildL (stp xs (p, q)) k).length (cst (buildL (stp xs (p, q)) k)) ∧ wr.heap[w.heap.size]? = some (.cells #[.int .i64 p, .int .i64 q] 40 (0, 0)) ∧ Below w.heap.size w wr) (fun _ i _ _ => 10 - (intOf i).toNat)
  case atStart => exact ⟨0, by omega, rfl, by have := own_made (w.alloc (.cells #[.int .i64 p, .int .i64 q] 40)) 40 2 [] 0 rfl (by decide); rw [World.size_alloc] at this; exact this, (Below.heap_alloc _ _ _ (by simp)).trans (heap_alloc_new w _), ((Below.refl _ _).alloc (Nat.le_refl _) _).alloc (by simp) _⟩
  case round =>
    obtain ⟨k, hk, rfl, hown, hblk, hb⟩ := hrel
    by_cases hlt : k < 10
    · have hl := buildL_len (stp xs (p, q)) k
      have c0 : wr.cell? ⟨w.heap.size, 0, none⟩ = some (.int .i64 p) := by simp [World.cell?, hblk]
      have c1 : wr.cell? ⟨w.heap.size, 1, none⟩ = some (.int .i64 q) := by simp [World.cell?, hblk]
      have HB := hd hblk
      have hz : w.heap.size + 1 ≤ wr.heap.size := lt_of_block hblk
      clear hblk
      go_wp2_with fail
      refine (valueOf_any A c xs k wr (H1.out.ext hb)).mono ?_
      rintro e wx ⟨rfl, rfl⟩
      have fin0 : 0 ≤ stp xs (p, q) k → ∀ (v' : Value) (w3 : World), w3.ownsRow (w.heap.size + 1) 40 2 v' ((buildL (stp xs (p, q)) k).length + 1) (cst (buildL (stp xs (p, q)) k) ++ cst [((k : Int), stp xs (p, q) k)]) → w3.ownsRow (w.heap.size + 1) 40 2 v' (buildL (stp xs (p, q)) (k + 1)).length (cst (buildL (stp xs (p, q)) (k + 1))) := fun h0 v' w3 ho => by
        rw [buildL_succ, if_pos h0, cst_append, List.length_append]; exact ho
      have fin1 : ¬ 0 ≤ stp xs (p, q) k → buildL (stp xs (p, q)) (k + 1) = buildL (stp xs (p, q)) k := fun h0 => by
        rw [buildL_succ, if_neg h0]; simp
      have F0 := hd fin0
      have F1 := hd fin1
      clear fin0 fin1
      by_cases hp : (k : Int) = p
      · have e1 : ((k : Int) == p) = true := by simp [hp]
        have hs := hd (show stp xs (p, q) k = q from if_pos hp)
        clear hp
        by_cases h0 : 0 ≤ q
        · go_wp2_with (at_builtin; refine wpList_app eltS (.tmp 24) (.tmp 28) (news := cst [((k : Int), q)]) (m := 1) hown rfl (cst_one _) (by omega) (by omega) hz (by rfl) (by rfl) (by rfl) (by rfl) ?_; intro v' w3 hown3 hg3)
          go_roundw
          case rel => exact ⟨k + 1, by omega, by go_num, F0.out (by rw [hs.out]; exact h0) _ _ (by rw [hs.out]; exact hown3), (hg3.block _ hz (fun e => by have := own_ge hown _ e.symm; omega)).trans HB.out, hb.grown hg3 hb.size (fun j hj => by have := own_ge hown _ hj; omega)⟩
          case measure => simp [intOf]; omega
        · go_wp2_with fail
          go_roundw
          case rel => exact ⟨k + 1, by omega, by go_num, by rw [F1.out (by rw [hs.out]; omega)]; exact hown, HB.out, hb⟩
          case measure => simp [intOf]; omega
      · have e1 : ((k : Int) == p) = false := by simp [hp]
        have hs := hd (show stp xs (p, q) k = vof xs k from if_neg hp)
        clear hp
        by_cases h0 : 0 ≤ vof xs k
        · go_wp2_with (at_builtin; refine wpList_app eltS (.tmp 24) (.tmp 28) (news := cst [((k : Int), vof xs k)]) (m := 1) hown rfl (cst_one _) (by omega) (by omega) hz (by rfl) (by rfl) (by rfl) (by rfl) ?_; intro v' w3 hown3 hg3)
          go_roundw
          case rel => exact ⟨k + 1, by omega, by go_num, F0.out (by rw [hs.out]; exact h0) _ _ (by rw [hs.out]; exact hown3), (hg3.block _ hz (fun e => by have := own_ge hown _ e.symm; omega)).trans HB.out, hb.grown hg3 hb.size (fun j hj => by have := own_ge hown _ hj; omega)⟩
          case measure => simp [intOf]; omega
        · go_wp2_with fail
          go_roundw
          case rel => exact ⟨k + 1, by omega, by go_num, by rw [F1.out (by rw [hs.out]; omega)]; exact hown, HB.out, hb⟩
          case measure => simp [intOf]; omega
    · obtain rfl : k = 10 := by omega
      obtain ⟨A2, c2, rfl, hr⟩ := rwS_of_own hown rfl rfl
      clear hown hblk
      go_wp2
      go_ret
      exact ⟨A2, c2, by rw [step1_eq]; rfl, by rw [step1_eq]; exact Rw.low hr (by omega), hb⟩

/-- Changed settings, or none, in new memory. -/
def NewO (e : TypeId) (o : Option (List St)) (w : World) (r : Ending) (w' : World) : Prop :=
  ∃ A c, r = .returned (.tuple #[.slice A (o.getD []).length c, .bool o.isSome]) ∧ RwS w' w.heap.size e A c (o.getD []) ∧ Below w.heap.size w w'
theorem newO_none {e : TypeId} {o : Option (List St)} {w w' : World} (h : o = none) (hb : Below w.heap.size w w') : NewO e o w (.returned (.tuple #[.slice none 0 0, .bool false])) w' := by
  subst h; exact ⟨none, 0, rfl, rwS_nil _ _ _, hb⟩
theorem appS_bad {xs cs : List St} (h : ¬ (VS xs = true ∧ cs.length ≤ 16 ∧ cs.all okC = true)) : appS xs cs = none := if_neg h
theorem all_bad {cs : List St} {k : Nat} (h : k < cs.length) (hc : okC cs[k] = false) : ¬ cs.all okC = true := fun h1 => by
  have := List.all_eq_true.1 h1 _ (List.getElem_mem h)
  rw [hc] at this; cases this
theorem okC_no1 {c : St} (h : inB c.1 0 9 = false) : okC c = false := by
  unfold inB at h; unfold okC; rw [h]; rfl
theorem okC_no2 {c : St} (h : inB c.2 (-1) 20 = false) : okC c = false := by
  unfold inB at h; unfold okC; rw [h]; simp
theorem okC_yes {c : St} (h : inB c.1 0 9 = true) (h' : inB c.2 (-1) 20 = true) : okC c = true := by
  unfold inB at h h'; unfold okC; rw [h, h']; rfl
theorem all_take {cs : List St} {k : Nat} (h : k < cs.length) (h0 : (cs.take k).all okC = true) (hc : okC cs[k] = true) : (cs.take (k + 1)).all okC = true := by
  rw [List.take_succ_eq_append_getElem h, List.all_append, h0]; simp [hc]
set_option maxHeartbeats 2000000 in
theorem sApplySettings_any (A A' : Option Addr) (c c' : Nat) (xs cs : List St) (w : World) (h : SlS w A c xs) (h' : SlS w A' c' cs) :
    Calls Try.prog 30 #[.slice A xs.length c, .slice A' cs.length c'] w (NewO 40 (appS xs cs) w) := by
  have H1 := hd h
  have H2 := hd h'
  have hmax := h'.max
  have hcap := h'.cap
  unfold maxLen at hmax
  by_cases v1 : VS xs = true
  · by_cases v2 : 16 < cs.length
    · have HN := hd (appS_bad (xs := xs) (cs := cs) fun hh => by omega)
      go_enter Try.func30, Try.ntmps30
      go_wp2_with fail
      refine (svs_any A c xs w h).mono ?_
      rintro e w1 ⟨rfl, hx1⟩
      clear h h'
      go_wp2
      go_ret2
      exact newO_none HN.out hx1
    · have v1x := VS_len v1
      have hs0 : ∀ W, SlS W A c xs → Sl W 2 A xs.length c (cst xs) := fun W hW => hW
      have HS0 := hd hs0
      clear hs0
      go_enter Try.func30, Try.ntmps30
      go_wp2_with fail
      refine (svs_any A c xs w h).mono ?_
      rintro e w1 ⟨rfl, hx1⟩
      clear h h'
      have ho1 := hd (own_made w1 40 2 [] 0 rfl (by decide))
      have hs1 := hd (HS0.out _ ((H1.out.ext hx1).ext ((Below.refl _ _).alloc (Nat.le_refl _) (.cells #[] 40))))
      go_wp2_with (at_builtin; refine wpList_apps eltS (.tmp 16) (.tmp 17) ho1.out hs1.out (cst_one _) (by omega) (by omega) (by simp) (by rfl) (by rfl) (by rfl) (by rfl) ?_; intro v' w2 hown2 hg2)
      have hx2 : Below w.heap.size w w2 := (ext_alloc hx1 _).grown hg2 (by have := hx1.size; rw [World.size_alloc]; omega) (by intro k hk; simp [Value.ownBlock] at hk; have := hx1.size; omega)
      have hg0 : w1.heap.size ≤ w2.heap.size := by have := hg2.size; rw [World.size_alloc] at this; omega
      obtain ⟨B, d, rfl, hr0⟩ := rwS_of_own hown2 (by simp : [] ++ cst xs = cst xs) (by omega)
      have hr := Rw.low (B' := w.heap.size) hr0 hx1.size
      have HR := hd (show ∃ ys : List St, ys = xs ∧ RwS w2 w.heap.size 40 B d ys from ⟨xs, rfl, hr⟩)
      clear hown2 hg2 hr0 hr hx1 hg0
      go_loopw [6, 7] (fun v i wr => ∃ (k : Nat) (B : Option Addr) (d : Nat) (ys : List St), k ≤ cs.length ∧ i = .int .i64 k ∧ v = .slice B ys.length d ∧ Hid (ys = (cs.take k).foldl step1 xs) ∧ Hid ((cs.take k).all okC = true) ∧ RwS wr w.heap.size 40 B d ys ∧ Below w.heap.size w wr) (fun _ i _ => cs.length - (intOf i).toNat)
      case atStart =>
        obtain ⟨ys, hy, hr⟩ := HR.out
        subst hy
        exact ⟨0, B, d, ys, by omega, rfl, rfl, rfl, rfl, hr, hx2⟩
      case round =>
        clear HR hx2
        obtain ⟨k, B, d, ys, hk, rfl, rfl, HY, HC, hr, hb⟩ := hrel
        by_cases hlt : k < cs.length
        · obtain ⟨ad, rfl, hbl, hc0, hc1⟩ := (H2.out.ext hb).at hlt
          by_cases h1 : inB cs[k].1 0 9 = true
          · by_cases h2 : inB cs[k].2 (-1) 20 = true
            · have HY' := hd (show step1 ys (cs[k].1, cs[k].2) = (cs.take (k + 1)).foldl step1 xs by rw [List.take_succ_eq_append_getElem hlt, List.foldl_append, ← HY.out]; rfl)
              have HC' := hd (all_take hlt HC.out (okC_yes h1 h2))
              go_wp2_with fail
              refine (inr_any _ _ _ _).mono ?_
              rintro e wx ⟨rfl, rfl⟩
              go_wp2_with fail
              refine (inr_any _ _ _ _).mono ?_
              rintro e wx ⟨rfl, rfl⟩
              go_wp2_with fail
              refine (apply_any B d ys cs[k].1 cs[k].2 wr hr.sl).mono ?_
              rintro e w3 ⟨B3, d3, rfl, hr3, hx3⟩
              have HB := hd (ext_trans hb hx3)
              have HR3 := hd (hr3.low hb.size)
              go_wp2_with fail
              go_roundw
              case rel => exact ⟨k + 1, B3, d3, _, by omega, by go_num, rfl, HY', HC', HR3.out, HB.out⟩
              case measure => simp [intOf]; omega
            · have h2 : inB cs[k].2 (-1) 20 = false := by simpa using h2
              have HN := hd (appS_bad (xs := xs) (cs := cs) fun hh => all_bad hlt (okC_no2 h2) hh.2.2)
              go_wp2_with fail
              refine (inr_any _ _ _ _).mono ?_
              rintro e wx ⟨rfl, rfl⟩
              go_wp2_with fail
              refine (inr_any _ _ _ _).mono ?_
              rintro e wx ⟨rfl, rfl⟩
              go_wp2
              go_ret2
              exact newO_none HN.out hb
          · have h1 : inB cs[k].1 0 9 = false := by simpa using h1
            have HN := hd (appS_bad (xs := xs) (cs := cs) fun hh => all_bad hlt (okC_no1 h1) hh.2.2)
            go_wp2_with fail
            refine (inr_any _ _ _ _).mono ?_
            rintro e wx ⟨rfl, rfl⟩
            go_wp2
            go_ret2
            exact newO_none HN.out hb
        · obtain rfl : k = cs.length := by omega
          have HA := hd (show appS xs cs = some ys by
            have hc := HC.out
            rw [List.take_length] at hc
            rw [HY.out, List.take_length, steps_take v1 hc]
            exact if_pos ⟨v1, by omega, hc⟩)
          go_wp2
          go_ret2
          exact ⟨B, d, by rw [HA.out]; rfl, by rw [HA.out]; exact hr, hb⟩
  · have HN := hd (appS_bad (xs := xs) (cs := cs) fun hh => v1 hh.1)
    have v1 : VS xs = false := by simpa using v1
    go_enter Try.func30, Try.ntmps30
    go_wp2_with fail
    refine (svs_any A c xs w h).mono ?_
    rintro e w1 ⟨rfl, hx1⟩
    clear h h'
    go_wp2
    go_ret2
    exact newO_none HN.out hx1
end Go.Proofs.Ytabemhjbpnnlpaa
