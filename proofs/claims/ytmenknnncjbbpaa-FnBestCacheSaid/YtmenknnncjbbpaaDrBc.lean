/- What the draw of BestCache's arguments gives. -/
import Derived.Test.YtmenknnncjbbpaaDrCn
import Derived.Test.YtmenknnncjbbpaaMBc
namespace Go.Proofs.Ytmenknnncjbbpaa
open Go.RowKit
/-- Caches and names drawn. -/
def DrBN (w : World) (e : Ending) (w' : World) : Prop :=
  ∃ (A : Option Addr) (c : Nat) (rs : List Cr) (E : Option Addr) (f : Nat) (ns : List Int), e = .returned (.tuple #[.slice A rs.length c, .slice E ns.length f]) ∧ SlC w' A c rs ∧ (∀ r ∈ rs, r.2.2.2.length ≤ 100) ∧ rs.length ≤ 7 ∧ SlI w' E f ns ∧ ns.length ≤ 100 ∧ Below w.heap.size w w'
theorem eltC : Elt Try.prog 23 31 (.agg #[.int .i64 0, .slice none 0 0]) 2 32 := ⟨Try.underlying23, by kernel_rfl, rfl, by decide⟩
theorem mem7c {v : Int} (h : v ∈ ([3, 4, 2, 1, 0, 7] : List Int)) : 0 ≤ v ∧ v ≤ 7 := by
  simp at h; omega
/-- The rows drawn so far, beside the reader's block and the row of caches. -/
def RwsC (w : World) (rb : Nat) (v : Value) (rs : List Cr) : Prop :=
  ∀ r ∈ rs, SlI w r.2.1 r.2.2.1 r.2.2.2 ∧ r.2.2.2.length ≤ 100 ∧ ∀ j, rowOf r.2.1 r.2.2.2.length = some j → j ≠ rb ∧ v.ownBlock ≠ some j
theorem RwsC.reader {w w' : World} {rb : Nat} {v : Value} {rs : List Cr} (h : RwsC w rb v rs) (hg : w.grownBy w' (some rb)) : RwsC w' rb v rs := fun r hr => by
  obtain ⟨h1, h2, h3⟩ := h r hr
  exact ⟨Sl.apart h1 hg (fun j hj e => by injection e with e; exact (h3 j hj).1 e.symm), h2, h3⟩
theorem RwsC.push {w w' : World} {rb : Nat} {v v' : Value} {rs : List Cr} {r : Cr} (h : RwsC w rb v rs) (hr : SlI w r.2.1 r.2.2.1 r.2.2.2) (hl : r.2.2.2.length ≤ 100) (hb : ∀ j, rowOf r.2.1 r.2.2.2.length = some j → j ≠ rb ∧ v.ownBlock ≠ some j)
    (hg : w.grownBy w' v.ownBlock) (hat : v'.ownBlock = v.ownBlock ∨ ∃ g, v'.ownBlock = some g ∧ w.heap.size ≤ g) : RwsC w' rb v' (rs ++ [r]) := by
  have key : ∀ x : Cr, SlI w x.2.1 x.2.2.1 x.2.2.2 → x.2.2.2.length ≤ 100 → (∀ j, rowOf x.2.1 x.2.2.2.length = some j → j ≠ rb ∧ v.ownBlock ≠ some j) → SlI w' x.2.1 x.2.2.1 x.2.2.2 ∧ x.2.2.2.length ≤ 100 ∧ ∀ j, rowOf x.2.1 x.2.2.2.length = some j → j ≠ rb ∧ v'.ownBlock ≠ some j := fun x h1 h2 h3 => by
    refine ⟨Sl.apart h1 hg (fun j hj e => (h3 j hj).2 e), h2, fun j hj => ⟨(h3 j hj).1, ?_⟩⟩
    have hlt := Sl.row h1 j hj
    rcases hat with e3 | ⟨g, e3, hge⟩
    · rw [e3]; exact (h3 j hj).2
    · rw [e3]; intro e4; injection e4 with e4; omega
  intro x hx
  rcases List.mem_append.1 hx with hx | hx
  · obtain ⟨h1, h2, h3⟩ := h x hx
    exact key x h1 h2 h3
  · rw [List.mem_singleton] at hx
    subst hx
    exact key _ hr hl hb
/-- Caches that memory leaves alone. -/
theorem SlC.apart {w w' : World} {A : Option Addr} {c : Nat} {rs : List Cr} {row : Option Nat} (h : SlC w A c rs) (hg : w.grownBy w' row) (h1 : ∀ j, rowOf A rs.length = some j → row ≠ some j) (h2 : ∀ r ∈ rs, ∀ j, rowOf r.2.1 r.2.2.2.length = some j → row ≠ some j) : SlC w' A c rs :=
  ⟨Sl.apart h.1 hg h1, fun r hr => Sl.apart (h.2 r hr) hg (h2 r hr)⟩
set_option maxRecDepth 100000 in
set_option maxHeartbeats 2000000 in
theorem drawBestCache_any (A : Option Addr) (n c : Nat) (w : World) (h : SlB w A n c) :
    Calls Try.prog 8 #[.slice A n c] w (DrBN w) := by
  go_enter Try.func8, Try.ntmps8
  go_wp2_with fail
  refine (newReader_any A n c w h).mono ?_
  rintro e w1 ⟨rfl, hrd, hb, hz⟩
  have hzle : w.heap.size + 1 ≤ w1.heap.size := by omega
  clear hz
  go_wp2_with fail
  refine (one_any w.heap.size 0 (some ⟨w1.heap.size + 1, 0, none⟩) 6 [3, 4, 2, 1, 0, 7] _ ((hrd.ext ((Below.refl _ _).alloc (Nat.le_refl _) _)).ext ((Below.refl _ _).alloc (Nat.le_refl _) _)) (by omega) (by have := slI_made (w1.alloc (.cells #[] 31)) 3 [3, 4, 2, 1, 0, 7] (by decide); rw [World.size_alloc] at this; exact this) (by decide) (by decide) (fun ad e => by injection e with e; subst e; show w1.heap.size + 1 ≠ w.heap.size; omega)).mono ?_
  rintro e w3 ⟨v, rfl, hv, hrd3, hg3, -⟩
  have hv17 := mem7c hv
  have hv0 := hv17.1
  have hv1 := hv17.2
  have hG3 : w1.grownBy w3 (some w.heap.size) := grown_same (World.grownBy_alloc w1 _ _) (grown_same (World.grownBy_alloc _ _ _) hg3)
  have ho3 : w3.ownsRow w1.heap.size 31 2 (.slice (some ⟨w1.heap.size, 0, none⟩) 0 0) 0 [] := own_far (own_made w1 _ 2 [] 0 rfl (by decide)) (grown_same (World.grownBy_alloc _ _ _) hg3) (by omega)
  clear hv hv17 hg3
  go_wp2_with fail
  go_loopw [5, 6] (fun v i wr => ∃ (x : Int) (rs : List Cr) (p : Nat), i = .int .i64 x ∧ 0 ≤ x ∧ x + rs.length ≤ 7 ∧ p ≤ 1 + 40 * rs.length ∧ wr.ownsRow w1.heap.size 31 2 v rs.length (ccr rs) ∧ RwsC wr w.heap.size v rs ∧ Rd wr w.heap.size p ∧ w1.grownBy wr (some w.heap.size)) (fun _ i _ => (intOf i).toNat)
  case atStart => exact ⟨v, [], 0 + 1, rfl, hv0, by simp; omega, by simp, ho3, fun r hr => (by cases hr), hrd3, hG3⟩
  case round =>
    clear ho3 hrd3 hG3 hv0 hv1
    obtain ⟨x, rs, p, rfl, hx0, hx1, hp, hown, hrows, hrd, hg⟩ := hrel
    by_cases hlt : 0 < x
    · go_wp2_with fail
      refine (anyCache_any w.heap.size p wr hrd (by omega)).mono ?_
      rintro e wa ⟨r, B, d, ys, q, rfl, -, -, hs, hl, hq, hrda, hga, hA⟩
      have howna := own_far hown hga (by omega)
      have hGa := grown_same hg hga
      have hrowsa := hrows.reader hga
      have hok := hd (show ∀ j, rowOf B ys.length = some j → j ≠ w.heap.size ∧ u5.ownBlock ≠ some j from fun j hj => by
        have h1 := hA j hj
        have h2 := hg.size
        refine ⟨by omega, fun e' => ?_⟩
        have := (hown.lt _ e').2
        omega)
      clear hown hrd hg hga hrows hA
      go_wp2_with (at_builtin; refine wpList_app_at eltC (.tmp 19) (.tmp 22) (news := [.int .i64 r, .slice B ys.length d]) (m := 1) howna rfl (by intro u hu; simp at hu; rcases hu with rfl | rfl <;> rfl) (by omega) (by omega) hGa.size (by rfl) (by rfl) (by rfl) (by rfl) ?_; intro v' w4 hown4 hg4 hat4)
      have HAT := hd hat4
      clear hat4
      go_roundw
      case rel => exact ⟨x - 1, rs ++ [(r, B, d, ys)], q, rfl, by omega, by simp; omega, by simp; omega, by rw [ccr_append, List.length_append]; exact hown4, hrowsa.push (r := (r, B, d, ys)) hs hl hok.out hg4 HAT.out, hrda.grown hg4 (fun j hj => by have := own_ge howna j hj; omega), grown_step hGa hg4 (fun j hj => .inr (own_ge howna j hj))⟩
      case measure => simp [intOf]; omega
    · obtain rfl : x = 0 := by omega
      have hzr := hg.size
      have hbz := ext_grown hb hg (fun k e => by injection e with e; omega)
      obtain ⟨A2, c2, rfl, hso, hA2⟩ := Sl.of_own hown
      have S0 := hd (show SlC wr A2 c2 rs from ⟨hso, fun r hr => (hrows r hr).1⟩)
      have HL := hd (fun r hr => (hrows r hr).2.1)
      have R1 := hd (show ∀ j, rowOf A2 rs.length = some j → j ≠ w.heap.size ∧ j < wr.heap.size from fun j hj => ⟨by have := row_of_ad (n := rs.length) hA2 j hj; omega, Sl.row hso j hj⟩)
      have R2 := hd (show ∀ r ∈ rs, ∀ j, rowOf r.2.1 r.2.2.2.length = some j → j ≠ w.heap.size ∧ j < wr.heap.size from fun r hr j hj => ⟨((hrows r hr).2.2 j hj).1, Sl.row (hrows r hr).1 j hj⟩)
      have hp7 : p ≤ 400 := by omega
      have hr7 : rs.length ≤ 7 := by omega
      obtain ⟨wz, hwz⟩ : ∃ x, x = wr := ⟨_, rfl⟩
      rw [← hwz] at S0 R1 R2 hrd hbz hzr ⊢
      clear hown hso hrows hg hA2 hb hwz hp hx1
      have ho4 : (wz.alloc (.cells #[] 3)).ownsRow wz.heap.size 3 1 (.slice (some ⟨wz.heap.size, 0, none⟩) 0 0) 0 [] := own_made wz _ 1 [] 0 rfl (by decide)
      have hrd4 := hrd.ext (ext_alloc (Below.refl _ _) (.cells #[] 3))
      have hg4 : wz.grownBy (wz.alloc (.cells #[] 3)) (some w.heap.size) := World.grownBy_alloc wz _ _
      clear hrd
      go_wp2_with fail
      go_loopw [7, 8] (fun v i wr => ∃ (x : Nat) (ys : List Int) (p2 : Nat), i = .int .i64 x ∧ x ≤ 10 ∧ ys.length ≤ x ∧ p2 ≤ p + x ∧ wr.ownsRow wz.heap.size 3 1 v ys.length (ci ys) ∧ Rd wr w.heap.size p2 ∧ wz.grownBy wr (some w.heap.size)) (fun _ i _ => 10 - (intOf i).toNat)
      case atStart => exact ⟨0, [], p, rfl, by omega, by simp, by omega, ho4, hrd4, hg4⟩
      case round =>
        clear ho4 hrd4 hg4
        obtain ⟨x, ys, p2, rfl, hx0, hx1, hp, hown, hrd, hg⟩ := hrel
        have hz9 := hg.size
        by_cases hlt : x < 10
        · go_wp2_with fail
          refine (pick_any w.heap.size p2 2 wr hrd (by omega) (by omega)).mono ?_
          rintro e wa ⟨a, rfl, -, -, hrda, hga, -⟩
          have howna := own_far hown hga (by omega)
          have hGa := grown_same hg hga
          clear hown hrd hg hga
          by_cases ha : a = 0
          · have g0 : (a == 0) = true := beq_iff_eq.2 ha
            clear ha
            go_wp2_with (at_builtin; refine wpList_app eltI _ _ (news := ci [(x : Int)]) (m := 1) howna rfl (ci_one _) (by omega) (by omega) hGa.size (by rfl) (by rfl) (by rfl) (by rfl) ?_; intro v' w4 hown4 hg4)
            go_roundw
            case rel => exact ⟨x + 1, ys ++ [(x : Int)], p2 + 1, by go_num, by omega, by simp; omega, by omega, by rw [ci_append, List.length_append]; exact hown4, hrda.grown hg4 (fun j hj => by have := own_ge howna j hj; omega), grown_step hGa hg4 (fun j hj => .inr (own_ge howna j hj))⟩
            case measure => simp [intOf]; omega
          · have g0 : (a == 0) = false := beq_eq_false_iff_ne.2 ha
            clear ha
            go_wp2_with fail
            go_roundw
            case rel => exact ⟨x + 1, ys, p2 + 1, by go_num, by omega, by omega, by omega, howna, hrda, hGa⟩
            case measure => simp [intOf]; omega
        · obtain rfl : x = 10 := by omega
          obtain ⟨A4, c4, rfl, hs2, hA4⟩ := slI_of_own hown rfl rfl
          clear hown
          go_wp2_with fail
          refine (spoil_any w.heap.size p2 A4 c4 ys 10 wr hrd (by omega) hs2 (by omega)).mono ?_
          rintro e w5 ⟨A3, c3, zs, q3, rfl, hs3, hl3, hq3, hrd5, hg5, hA3⟩
          have hG5 := grown_same hg hg5
          have hbF := ext_grown hbz hG5 (fun k e => by injection e with e; omega)
          have S5 := hd (S0.out.apart hG5 (fun j hj e => by injection e with e; exact (R1.out j hj).1 e.symm) (fun r hr j hj e => by injection e with e; exact (R2.out r hr j hj).1 e.symm))
          clear hg hg5 hA4 hs2 hrd
          go_wp2
          go_ret2
          exact ⟨A2, c2, rs, A3, c3, zs, rfl, S5.out, HL.out, by omega, hs3, by omega, hbF⟩
end Go.Proofs.Ytmenknnncjbbpaa
