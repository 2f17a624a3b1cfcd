/- Contract: impl.ApplySettings. -/
import Derived.Test.YtabemhjbpnnlpaaWAp
namespace Go.Proofs.Ytabemhjbpnnlpaa
open Go.RowKit
theorem idx_arr0 (f : Nat → Int) (w : World) : (Instr.index 54 (.agg (arr f)) (.int .i64 (0 : Int))).run Try.prog w = .ok (.int .i64 (f 0)) w := by kernel_rfl
theorem idx_arr1 (f : Nat → Int) (w : World) : (Instr.index 54 (.agg (arr f)) (.int .i64 (1 : Int))).run Try.prog w = .ok (.int .i64 (f 1)) w := by kernel_rfl
theorem idx_arr2 (f : Nat → Int) (w : World) : (Instr.index 54 (.agg (arr f)) (.int .i64 (2 : Int))).run Try.prog w = .ok (.int .i64 (f 2)) w := by kernel_rfl
theorem idx_arr3 (f : Nat → Int) (w : World) : (Instr.index 54 (.agg (arr f)) (.int .i64 (3 : Int))).run Try.prog w = .ok (.int .i64 (f 3)) w := by kernel_rfl
theorem idx_arr4 (f : Nat → Int) (w : World) : (Instr.index 54 (.agg (arr f)) (.int .i64 (4 : Int))).run Try.prog w = .ok (.int .i64 (f 4)) w := by kernel_rfl
theorem idx_arr5 (f : Nat → Int) (w : World) : (Instr.index 54 (.agg (arr f)) (.int .i64 (5 : Int))).run Try.prog w = .ok (.int .i64 (f 5)) w := by kernel_rfl
theorem idx_arr6 (f : Nat → Int) (w : World) : (Instr.index 54 (.agg (arr f)) (.int .i64 (6 : Int))).run Try.prog w = .ok (.int .i64 (f 6)) w := by kernel_rfl
theorem idx_arr7 (f : Nat → Int) (w : World) : (Instr.index 54 (.agg (arr f)) (.int .i64 (7 : Int))).run Try.prog w = .ok (.int .i64 (f 7)) w := by kernel_rfl
theorem idx_arr8 (f : Nat → Int) (w : World) : (Instr.index 54 (.agg (arr f)) (.int .i64 (8 : Int))).run Try.prog w = .ok (.int .i64 (f 8)) w := by kernel_rfl
theorem idx_arr9 (f : Nat → Int) (w : World) : (Instr.index 54 (.agg (arr f)) (.int .i64 (9 : Int))).run Try.prog w = .ok (.int .i64 (f 9)) w := by kernel_rfl
theorem idx_arr (f : Nat → Int) (k : Nat) (h : k < 10) (w : World) : (Instr.index 54 (.agg (arr f)) (.int .i64 (k : Int))).run Try.prog w = .ok (.int .i64 (f k)) w := by
  match k, h with
  | 0, _ => exact idx_arr0 f w
  | 1, _ => exact idx_arr1 f w
  | 2, _ => exact idx_arr2 f w
  | 3, _ => exact idx_arr3 f w
  | 4, _ => exact idx_arr4 f w
  | 5, _ => exact idx_arr5 f w
  | 6, _ => exact idx_arr6 f w
  | 7, _ => exact idx_arr7 f w
  | 8, _ => exact idx_arr8 f w
  | 9, _ => exact idx_arr9 f w
set_option maxHeartbeats 2000000 in
theorem applySettings_any (A A' : Option Addr) (c c' : Nat) (xs cs : List St) (w : World) (h : SlS w A c xs) (h' : SlS w A' c' cs) :
    Calls Try.prog 28 #[.slice A xs.length c, .slice A' cs.length c'] w (NewO 40 (appS xs cs) w) := by
  have H1 := hd h
  have H2 := hd h'
  have hmax := h'.max
  have hcap := h'.cap
  unfold maxLen at hmax
  by_cases v1 : VS xs = true
  · by_cases v2 : 16 < cs.length
    · have HN := hd (appS_bad (xs := xs) (cs := cs) fun hh => by omega)
      go_enter Try.func28, Try.ntmps28
      go_wp2_with fail
      refine (vs_any A c xs w h).mono ?_
      rintro e w1 ⟨rfl, hx1⟩
      clear h h'
      go_wp2
      go_ret2
      exact newO_none HN.out hx1
    · have V1 := fun W hW => values_any A c xs W hW (VS_mem v1)
      obtain ⟨f, hf⟩ : ∃ f, f = vals xs := ⟨_, rfl⟩
      rw [← hf] at V1
      have HF := hd hf
      have HV := hd V1
      clear hf V1
      go_enter Try.func28, Try.ntmps28
      go_wp2_with fail
      refine (vs_any A c xs w h).mono ?_
      rintro e w1 ⟨rfl, hx1⟩
      clear h h'
      go_wp2_with fail
      refine (HV.out w1 (H1.out.ext hx1)).mono ?_
      rintro e w2 ⟨rfl, hx2⟩
      have hb2 := ext_trans hx1 hx2
      have hA0 := hd (show Arr (w2.alloc (.cells (arr f) 54)) w2.heap.size f from Arr.new w2 f)
      clear hx1 hx2
      unfold arr
      go_wp2_with fail
      go_loopw [24] (fun i wr => ∃ k : Nat, k ≤ cs.length ∧ i = .int .i64 k ∧ Arr wr w2.heap.size (fin f (cs.take k)) ∧ Hid ((cs.take k).all okC = true) ∧ Below w.heap.size w wr) (fun i _ => cs.length - (intOf i).toNat)
      case atStart => exact ⟨0, by omega, rfl, hA0.out, rfl, ext_alloc hb2 _⟩
      case round =>
        obtain ⟨k, hk, rfl, hA, HC, hb⟩ := hrel
        by_cases hlt : k < cs.length
        · obtain ⟨ad, rfl, hbl, hc0, hc1⟩ := (H2.out.ext hb).at hlt
          by_cases h1 : inB cs[k].1 0 9 = true
          · by_cases h2 : inB cs[k].2 (-1) 20 = true
            · have HC' := hd (all_take hlt HC.out (okC_yes h1 h2))
              have b1 := inB_iff.1 h1
              have b2 := b1.1
              have b3 : cs[k].1 < 10 := by omega
              have b4 : cs[k].1.toNat < 10 := by omega
              clear b1
              have c0 : ∀ o, (wr.alloc o).cell? ⟨w2.heap.size, cs[k].1.toNat, none⟩ = some (.int .i64 (fin f (cs.take k) cs[k].1.toNat)) := fun o => (hA.ext ((Below.refl _ _).alloc (Nat.le_refl _) o)).cell b4
              have c1 : ∀ o, (wr.alloc o).frozen? ⟨w2.heap.size, cs[k].1.toNat, none⟩ = false := fun o => (hA.ext ((Below.refl _ _).alloc (Nat.le_refl _) o)).free _
              have HA := hd hA
              have HB := hd hb
              clear hA hb
              go_wp2_with fail
              refine (in_any _ _ _ _).mono ?_
              rintro e wx ⟨rfl, rfl⟩
              go_wp2_with fail
              refine (in_any _ _ _ _).mono ?_
              rintro e wx ⟨rfl, rfl⟩
              go_wp2_with fail
              go_roundw
              case rel => exact ⟨k + 1, by omega, by go_num, by rw [fin_take f cs k hlt]; exact (HA.out.ext ((Below.refl _ _).alloc (Nat.le_refl _) _)).set b4 _, HC', (HB.out.alloc HB.out.size _).setCell (by have := hb2.size; simp; omega) _⟩
              case measure => simp [intOf]; omega
            · have h2 : inB cs[k].2 (-1) 20 = false := by simpa using h2
              have HN := hd (appS_bad (xs := xs) (cs := cs) fun hh => all_bad hlt (okC_no2 h2) hh.2.2)
              clear hA
              go_wp2_with fail
              refine (in_any _ _ _ _).mono ?_
              rintro e wx ⟨rfl, rfl⟩
              go_wp2_with fail
              refine (in_any _ _ _ _).mono ?_
              rintro e wx ⟨rfl, rfl⟩
              go_wp2
              go_ret2
              exact newO_none HN.out (ext_alloc hb _)
          · have h1 : inB cs[k].1 0 9 = false := by simpa using h1
            have HN := hd (appS_bad (xs := xs) (cs := cs) fun hh => all_bad hlt (okC_no1 h1) hh.2.2)
            clear hA
            go_wp2_with fail
            refine (in_any _ _ _ _).mono ?_
            rintro e wx ⟨rfl, rfl⟩
            go_wp2
            go_ret2
            exact newO_none HN.out (ext_alloc hb _)
        · obtain rfl : k = cs.length := by omega
          have HZ := hd (show appS xs cs = some (buildL (fin f cs) 10) by
            have hc := HC.out
            rw [List.take_length] at hc
            rw [HF.out]
            exact if_pos ⟨v1, by omega, hc⟩)
          rw [List.take_length] at hA
          generalize fin f cs = g at hA HZ
          have c0 := hA.cell (i := 0) (by omega)
          have c1 := hA.cell (i := 1) (by omega)
          have c2 := hA.cell (i := 2) (by omega)
          have c3 := hA.cell (i := 3) (by omega)
          have c4 := hA.cell (i := 4) (by omega)
          have c5 := hA.cell (i := 5) (by omega)
          have c6 := hA.cell (i := 6) (by omega)
          have c7 := hA.cell (i := 7) (by omega)
          have c8 := hA.cell (i := 8) (by omega)
          have c9 := hA.cell (i := 9) (by omega)
          obtain ⟨wo, rfl⟩ : ∃ wo : World, wo = wr := ⟨_, rfl⟩
          clear hA
          go_wp2_with fail
          clear c0 c1 c2 c3 c4 c5 c6 c7 c8 c9
          go_loopw [9, 45] (fun v i wr => ∃ k : Nat, k ≤ 10 ∧ i = .int .i64 k ∧ wr.ownsRow w.heap.size 40 2 v (buildL g k).length (cst (buildL g k)) ∧ Below w.heap.size w wr) (fun _ i _ => 10 - (intOf i).toNat)
          case atStart => exact ⟨0, by omega, rfl, World.ownsRow_nil _ _ _ _, hb⟩
          case round =>
            clear hb
            obtain ⟨k, hk, rfl, hown, hb⟩ := hrel
            by_cases hlt : k < 10
            · have hl := buildL_len g k
              have hi := fun W => idx_arr g k hlt W
              unfold arr at hi
              have hk1 : (k : Int) < 10 := by omega
              by_cases h0 : 0 ≤ g k
              · have HS := hd (show buildL g (k + 1) = buildL g k ++ [((k : Int), g k)] by rw [buildL_succ, if_pos h0])
                go_wp2_with (at_builtin; refine wpList_app eltS (.tmp 51) (.tmp 55) (news := cst [((k : Int), g k)]) (m := 1) hown rfl (cst_one _) (by omega) (by omega) hb.size (by rfl) (by rfl) (by rfl) (by rfl) ?_; intro v' w3 hown3 hg3)
                go_roundw
                case rel => exact ⟨k + 1, by omega, by go_num, by rw [HS.out, cst_append, List.length_append]; exact hown3, hb.grown hg3 hb.size (own_ge hown)⟩
                case measure => simp [intOf]; omega
              · have HS := hd (show buildL g (k + 1) = buildL g k by rw [buildL_succ, if_neg h0]; simp)
                go_wp2_with fail
                go_roundw
                case rel => exact ⟨k + 1, by omega, by go_num, by rw [HS.out]; exact hown, hb⟩
                case measure => simp [intOf]; omega
            · obtain rfl : k = 10 := by omega
              obtain ⟨A2, c2, rfl, hr⟩ := rwS_of_own hown rfl rfl
              have hr2 := hr.1.cap
              have hr3 := hr.1.max
              have HR := hd hr.clip
              clear hown hr
              go_wp2_with (go_at_call 44; refine (clipS_any _ _ _ _ hr2 hr3).mono ?_; rintro e w' ⟨rfl, rfl⟩)
              go_ret2
              exact ⟨A2, _, by rw [HZ.out]; rfl, by rw [HZ.out]; exact HR.out, hb⟩
  · have HN := hd (appS_bad (xs := xs) (cs := cs) fun hh => v1 hh.1)
    have v1 : VS xs = false := by simpa using v1
    go_enter Try.func28, Try.ntmps28
    go_wp2_with fail
    refine (vs_any A c xs w h).mono ?_
    rintro e w1 ⟨rfl, hx1⟩
    clear h h'
    go_wp2
    go_ret2
    exact newO_none HN.out hx1
end Go.Proofs.Ytabemhjbpnnlpaa
