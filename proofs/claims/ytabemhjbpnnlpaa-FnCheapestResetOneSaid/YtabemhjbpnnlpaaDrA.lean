/- What DrawApplySettings gives. -/
import Derived.Test.YtabemhjbpnnlpaaDrS
import Derived.Deep.AppendLies
namespace Go.Proofs.Ytabemhjbpnnlpaa
open Go.RowKit
/-- Settings and changes drawn from a code. -/
def DrewSC (w : World) (e : Ending) (w' : World) : Prop :=
  ∃ (A A' : Option Addr) (c c' : Nat) (xs ys : List St), e = .returned (.tuple #[.slice A xs.length c, .slice A' ys.length c']) ∧ SlS w' A c xs ∧ SlS w' A' c' ys ∧ xs.length ≤ 11 ∧ ys.length ≤ 17 ∧ Below w.heap.size w w'
theorem mem17 {v : Int} (h : v ∈ ([3, 5, 2, 1, 0, 16, 17] : List Int)) : 0 ≤ v ∧ v ≤ 17 := by
  simp at h; omega
theorem one_grown {w0 w w' : World} {rb : Nat} {o : Obj} (h : w0.grownBy w (some rb)) (hg : (w.alloc o).grownBy w' (some rb)) : w0.grownBy w' (some rb) := grown_same h (grown_same (World.grownBy_alloc w o _) hg)
set_option maxHeartbeats 2000000 in
theorem drawApplySettings_any (A : Option Addr) (n c : Nat) (w : World) (h : SlB w A n c) :
    Calls Try.prog 29 #[.slice A n c] w (DrewSC w) := by
  go_enter Try.func29, Try.ntmps29
  go_wp2_with fail
  refine (newReader_any A n c w h).mono ?_
  rintro e w1 ⟨rfl, hrd, hb, hz⟩
  have hzle : w.heap.size + 1 ≤ w1.heap.size := by omega
  clear hz
  go_wp2_with fail
  refine (anySettings_any w.heap.size 0 w1 hrd (by omega)).mono ?_
  rintro e w2 ⟨B, d, xs, q, rfl, hs, hl, hq, hrd2, hg, hA⟩
  have hb2 := ext_grown hb hg (fun k e => by injection e with e; omega)
  have hz2 : w1.heap.size ≤ w2.heap.size := hg.size
  go_wp2_with fail
  refine (one_any w.heap.size q (some ⟨w2.heap.size + 1, 0, none⟩) 7 [3, 5, 2, 1, 0, 16, 17] _ ((hrd2.ext ((Below.refl _ _).alloc (Nat.le_refl _) _)).ext ((Below.refl _ _).alloc (Nat.le_refl _) _)) (by omega) (by have := slI_made (w2.alloc (.cells #[] 40)) 3 [3, 5, 2, 1, 0, 16, 17] (by decide); rw [World.size_alloc] at this; exact this) (by decide) (by decide) (fun ad e => by injection e with e; subst e; show w2.heap.size + 1 ≠ w.heap.size; omega)).mono ?_
  rintro e w3 ⟨v, rfl, hv, hrd3, hg3, -⟩
  have hv17 := mem17 hv
  have hv0 := hv17.1
  have hv1 := hv17.2
  have hG3 : w2.grownBy w3 (some w.heap.size) := grown_same (World.grownBy_alloc w2 _ _) (grown_same (World.grownBy_alloc _ _ _) hg3)
  have ho3 : w3.ownsRow w2.heap.size 40 2 (.slice (some ⟨w2.heap.size, 0, none⟩) 0 0) 0 [] := own_far (own_made w2 _ 2 [] 0 rfl (by decide)) (grown_same (World.grownBy_alloc _ _ _) hg3) (by omega)
  clear hv hv17 hg hg3
  go_wp2_with fail
  go_loopw [6, 7] (fun v i wr => ∃ (x : Int) (ys : List St) (p : Nat), i = .int .i64 x ∧ 0 ≤ x ∧ x + ys.length ≤ 17 ∧ p ≤ q + 1 + 2 * ys.length ∧ wr.ownsRow w2.heap.size 40 2 v ys.length (cst ys) ∧ Rd wr w.heap.size p ∧ w2.grownBy wr (some w.heap.size)) (fun _ i _ => (intOf i).toNat)
  case atStart => exact ⟨v, [], q + 1, rfl, hv0, by simp; omega, by simp, ho3, hrd3, hG3⟩
  case round =>
    clear ho3 hrd3 hG3 hv0 hv1
    obtain ⟨x, ys, p, rfl, hx0, hx1, hp, hown, hrd, hg⟩ := hrel
    by_cases hlt : 0 < x
    · go_wp2_with fail
      refine (pick_any w.heap.size p 10 wr hrd (by omega) (by omega)).mono ?_
      rintro e wa ⟨a, rfl, ha0, ha1, hrda, hga, -⟩
      have howna := own_far hown hga (by omega)
      have hGa := grown_same hg hga
      clear hown hrd hg hga
      go_wp2_with fail
      refine (pick_any w.heap.size (p + 1) 22 wa hrda (by omega) (by omega)).mono ?_
      rintro e wb ⟨b, rfl, hb0, hb1, hrdb, hgb, -⟩
      have hownb := own_far howna hgb (by omega)
      have hGb := grown_same hGa hgb
      have hb22 := hb1 (by omega)
      clear howna hrda hGa hgb hb1 ha1
      go_wp2_with (at_builtin; refine wpList_app eltS (.tmp 20) (.tmp 27) (news := cst [(a, b - 1)]) (m := 1) hownb rfl (cst_one _) (by omega) (by omega) hGb.size (by rfl) (by rfl) (by rfl) (by rfl) ?_; intro v' w4 hown4 hg4)
      go_roundw
      case rel => exact ⟨x - 1, ys ++ [(a, b - 1)], p + 2, rfl, by omega, by simp; omega, by simp; omega, by rw [cst_append, List.length_append]; exact hown4, hrdb.grown hg4 (fun j hj => by have := own_ge hownb j hj; omega), grown_step hGb hg4 (fun j hj => .inr (own_ge hownb j hj))⟩
      case measure => simp [intOf]; omega
    · obtain rfl : x = 0 := by omega
      have fin : ∀ (W : World) (v' : Value) (zs : List St), W.ownsRow w2.heap.size 40 2 v' zs.length (cst zs) → zs.length ≤ 17 → w2.grownBy W (some w.heap.size) → ∃ B' d', v' = .slice B' zs.length d' ∧ SlS W B' d' zs ∧ SlS W B d xs ∧ Below w.heap.size w W := fun W v' zs ho hl2 hG => by
        obtain ⟨B', d', rfl, hs', _⟩ := slS_of_own ho rfl rfl
        exact ⟨B', d', rfl, hs', Sl.keepRow hs hG (fun ad e => by have := hA ad e; omega), ext_grown hb2 hG (fun k e => by injection e with e; omega)⟩
      have F := hd fin
      clear fin hA hs
      by_cases h0 : ys.length = 0
      · obtain ⟨B', d', rfl, hs', hx', hb'⟩ := F.out wr _ ys hown (by omega) hg
        have g1 : decide ((0 : Int) < (ys.length : Int)) = false := decide_eq_false (by omega)
        have g2 : decide (0 < ys.length) = false := decide_eq_false (by omega)
        have HS := hd (And.intro hs' (And.intro hx' hb'))
        clear hs' hx' hb' h0 hown
        go_wp2
        go_ret2
        exact ⟨B, B', d, d', xs, ys, rfl, HS.out.2.1, HS.out.1, hl, by omega, HS.out.2.2⟩
      · have g1 : decide ((0 : Int) < (ys.length : Int)) = true := decide_eq_true (by omega)
        have g2 : decide (0 < ys.length) = true := decide_eq_true (by omega)
        obtain ⟨g, cap, rfl, hgb, hgl⟩ := hown.form (by omega)
        have hy17 : ys.length ≤ 17 := by omega
        have hy0 : 0 < ys.length := by omega
        clear h0 hx1
        go_wp2_with fail
        refine (pick_any w.heap.size p 16 wr hrd (by omega) (by omega)).mono ?_
        rintro e wa ⟨y, rfl, ha0, ha1, hrda, hga, -⟩
        have howna := own_far hown hga (by omega)
        have hGa := grown_same hg hga
        clear hown hrd hg hga ha1
        by_cases hy : y = 0
        · have hyb : (y == 0) = true := by simp [hy]
          clear hy
          go_wp2_with fail
          refine (one_any w.heap.size (p + 1) (some ⟨wa.heap.size, 0, none⟩) 3 [10, -1, 3] _ (hrda.ext ((Below.refl _ _).alloc (Nat.le_refl _) _)) (by omega) (slI_made wa _ [10, -1, 3] (by decide)) (by decide) (by decide) (fun ad e => by injection e with e; subst e; have := hGa.size; show wa.heap.size ≠ w.heap.size; omega)).mono ?_
          rintro e wb ⟨a, rfl, -, hrdb, hgb, -⟩
          have hGb := one_grown hGa hgb
          have hownb := own_far howna (grown_same (World.grownBy_alloc wa _ _) hgb) (by omega)
          clear howna hrda hGa hgb
          go_wp2_with fail
          refine (one_any w.heap.size (p + 2) (some ⟨wb.heap.size, 0, none⟩) 2 [21, -2] _ (hrdb.ext ((Below.refl _ _).alloc (Nat.le_refl _) _)) (by omega) (slI_made wb _ [21, -2] (by decide)) (by decide) (by decide) (fun ad e => by injection e with e; subst e; have := hGb.size; show wb.heap.size ≠ w.heap.size; omega)).mono ?_
          rintro e wc ⟨b, rfl, -, hrdc, hgc, -⟩
          have hGc := one_grown hGb hgc
          have hownc := own_far hownb (grown_same (World.grownBy_alloc wb _ _) hgc) (by omega)
          clear hownb hrdb hGb hgc
          have hlen : (cst ys).length = ys.length * 2 := cst_length ys
          have c0 : wc.cell? ⟨g, 0, none⟩ = some ((cst ys)[0]'(by omega)) := by rw [hownc.cellAt 0 (by omega)]; exact List.getElem?_eq_getElem (by omega)
          have c1 : wc.cell? ⟨g, 1, none⟩ = some ((cst ys)[1]'(by omega)) := by rw [hownc.cellAt 1 (by omega)]; exact List.getElem?_eq_getElem (by omega)
          have f0 := hownc.frozenAt 0
          have f1 := hownc.frozenAt 1
          have o1 := hownc.stored 0 (.int .i64 a)
          have o2 := o1.1.stored 1 (.int .i64 b)
          have hGd := grown_step (grown_step hGc o1.2 (fun k e => by injection e with e; exact .inr (by omega))) o2.2 (fun k e => by injection e with e; exact .inr (by omega))
          obtain ⟨y0, r, hyr⟩ : ∃ y0 r, ys = y0 :: r := by
            cases ys with
            | nil => simp at hy0
            | cons y0 r => exact ⟨y0, r, rfl⟩
          have hset : ((cst ys).set 0 (.int .i64 a)).set 1 (.int .i64 b) = cst ((a, b) :: r) := by rw [hyr]; rfl
          have ho := o2.1
          rw [hset, show ys.length = ((a, b) :: r).length by rw [hyr]; rfl] at ho
          have HO := hd (F.out _ _ _ ho (by rw [hyr] at hy17; simpa using hy17) hGd)
          have HYL := hd (show ((a, b) :: r).length = ys.length by rw [hyr]; rfl)
          generalize (cst ys)[0]'(by omega) = z0 at c0
          generalize (cst ys)[1]'(by omega) = z1 at c1
          clear hset hyr ho o1 o2 hownc hlen
          go_wp2
          go_ret2
          obtain ⟨B', d', he, hs', hx', hb'⟩ := HO.out
          simp only [Value.slice.injEq] at he
          obtain ⟨e1, _, e3⟩ := he
          refine ⟨B, some ⟨g, 0, none⟩, d, cap, xs, (a, b) :: r, ?_, hx', by rw [e1, e3]; exact hs', hl, by rw [HYL.out]; omega, hb'⟩
          rw [HYL.out]
          rfl
        · have hyb : (y == 0) = false := by simp [hy]
          obtain ⟨B', d', he, hs', hx', hb'⟩ := F.out wa _ ys howna (by omega) hGa
          have HS := hd (And.intro he (And.intro hs' (And.intro hx' hb')))
          clear hs' hx' hb' hy howna he
          go_wp2
          go_ret2
          obtain ⟨he, hs', hx', hb'⟩ := HS.out
          simp only [Value.slice.injEq] at he
          obtain ⟨e1, _, e3⟩ := he
          exact ⟨B, some ⟨g, 0, none⟩, d, cap, xs, ys, rfl, hx', by rw [e1, e3]; exact hs', hl, by omega, hb'⟩
end Go.Proofs.Ytabemhjbpnnlpaa
