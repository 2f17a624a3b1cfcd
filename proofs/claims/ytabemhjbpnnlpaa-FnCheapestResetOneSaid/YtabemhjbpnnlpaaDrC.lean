/- What DrawCheapestReset gives. -/
import Derived.Test.YtabemhjbpnnlpaaDrA
import Derived.Test.YtabemhjbpnnlpaaPCr
namespace Go.Proofs.Ytabemhjbpnnlpaa
open Go.RowKit
theorem eltL : Elt Try.prog 43 23 (.slice none 0 0) 1 24 := ⟨Try.underlying43, by kernel_rfl, rfl, by decide⟩
/-- Lists of settings and settings drawn from a code. -/
def DrewLS (w : World) (e : Ending) (w' : World) : Prop :=
  ∃ (A A' : Option Addr) (c c' : Nat) (rs : Rws) (ys : List St), e = .returned (.tuple #[.slice A rs.length c, .slice A' ys.length c']) ∧ SlL w' A c rs ∧ SlS w' A' c' ys ∧ rs.length ≤ 7 ∧ (∀ r ∈ rs, r.2.2.length ≤ 11) ∧ ys.length ≤ 11 ∧ Below w.heap.size w w'
theorem mem7 {v : Int} (h : v ∈ ([3, 4, 2, 1, 0, 7] : List Int)) : 0 ≤ v ∧ v ≤ 7 := by
  simp at h; omega
/-- The rows drawn so far, beside the reader's block and the row of rows. -/
def RowsOk (w : World) (rb : Nat) (v : Value) (rs : Rws) : Prop :=
  ∀ r ∈ rs, SlS w r.1 r.2.1 r.2.2 ∧ r.2.2.length ≤ 11 ∧ ∀ ad, r.1 = some ad → 0 < r.2.2.length → ad.block ≠ rb ∧ v.ownBlock ≠ some ad.block
theorem slS_any {w w' : World} {A : Option Addr} {c : Nat} {xs : List St} {row : Option Nat} (h : SlS w A c xs) (hg : w.grownBy w' row) (hA : 0 < xs.length → ∀ ad, A = some ad → row ≠ some ad.block) : SlS w' A c xs :=
  ⟨h.1, h.2.1, h.2.2.1, fun hn => by
    obtain ⟨ad, e, hb, hc⟩ := Sl.addr h hn
    exact ⟨ad, e, Nat.lt_of_lt_of_le hb hg.size, fun j u hu => hg.cell (hc j u hu) (by rw [blk_add]; exact fun e' => hA hn ad e e'.symm)⟩⟩
theorem RowsOk.reader {w w' : World} {rb : Nat} {v : Value} {rs : Rws} (h : RowsOk w rb v rs) (hg : w.grownBy w' (some rb)) : RowsOk w' rb v rs := fun r hr => by
  obtain ⟨h1, h2, h3⟩ := h r hr
  exact ⟨slS_any h1 hg fun h0 ad e e' => (h3 ad e h0).1 (by injection e' with e'; exact e'.symm), h2, h3⟩
theorem RowsOk.push {w w' : World} {rb : Nat} {v v' : Value} {rs : Rws} {r : Option Addr × Nat × List St} (h : RowsOk w rb v rs) (hr : SlS w r.1 r.2.1 r.2.2) (hl : r.2.2.length ≤ 11) (hb : ∀ ad, r.1 = some ad → 0 < r.2.2.length → ad.block ≠ rb ∧ v.ownBlock ≠ some ad.block)
    (hg : w.grownBy w' v.ownBlock) (hat : v'.ownBlock = v.ownBlock ∨ ∃ g, v'.ownBlock = some g ∧ w.heap.size ≤ g) : RowsOk w' rb v' (rs ++ [r]) := by
  have key : ∀ x : Option Addr × Nat × List St, SlS w x.1 x.2.1 x.2.2 → x.2.2.length ≤ 11 → (∀ ad, x.1 = some ad → 0 < x.2.2.length → ad.block ≠ rb ∧ v.ownBlock ≠ some ad.block) → SlS w' x.1 x.2.1 x.2.2 ∧ x.2.2.length ≤ 11 ∧ ∀ ad, x.1 = some ad → 0 < x.2.2.length → ad.block ≠ rb ∧ v'.ownBlock ≠ some ad.block := fun x h1 h2 h3 => by
    refine ⟨slS_any h1 hg fun h0 ad e => (h3 ad e h0).2, h2, fun ad e h0 => ⟨(h3 ad e h0).1, ?_⟩⟩
    obtain ⟨ad', e1, e2, _⟩ := Sl.addr h1 h0
    have : ad' = ad := by rw [e] at e1; injection e1 with e1; exact e1.symm
    subst this
    rcases hat with e3 | ⟨g, e3, hge⟩
    · rw [e3]; exact (h3 _ e h0).2
    · rw [e3]; intro e4; injection e4 with e4; omega
  intro x hx
  rcases List.mem_append.1 hx with hx | hx
  · obtain ⟨h1, h2, h3⟩ := h x hx
    exact key x h1 h2 h3
  · rw [List.mem_singleton] at hx
    subst hx
    exact key _ hr hl hb
theorem one_cells (rs : Rws) : ∀ u ∈ rs.map crw, u.oneCell' = true := by
  intro u hu
  obtain ⟨r, _, rfl⟩ := List.mem_map.1 hu
  rfl
set_option maxHeartbeats 2000000 in
theorem drawCheapestReset_any (A : Option Addr) (n c : Nat) (w : World) (h : SlB w A n c) :
    Calls Try.prog 32 #[.slice A n c] w (DrewLS w) := by
  go_enter Try.func32, Try.ntmps32
  go_wp2_with fail
  refine (newReader_any A n c w h).mono ?_
  rintro e w1 ⟨rfl, hrd, hb, hz⟩
  have hzle : w.heap.size + 1 ≤ w1.heap.size := by omega
  clear hz
  go_wp2_with fail
  refine (one_any w.heap.size 0 (some ⟨w1.heap.size + 1, 0, none⟩) 6 [3, 4, 2, 1, 0, 7] _ ((hrd.ext ((Below.refl _ _).alloc (Nat.le_refl _) _)).ext ((Below.refl _ _).alloc (Nat.le_refl _) _)) (by omega) (by have := slI_made (w1.alloc (.cells #[] 23)) 3 [3, 4, 2, 1, 0, 7] (by decide); rw [World.size_alloc] at this; exact this) (by decide) (by decide) (fun ad e => by injection e with e; subst e; show w1.heap.size + 1 ≠ w.heap.size; omega)).mono ?_
  rintro e w3 ⟨v, rfl, hv, hrd3, hg3, -⟩
  have hv17 := mem7 hv
  have hv0 := hv17.1
  have hv1 := hv17.2
  have hG3 : w1.grownBy w3 (some w.heap.size) := grown_same (World.grownBy_alloc w1 _ _) (grown_same (World.grownBy_alloc _ _ _) hg3)
  have ho3 : w3.ownsRow w1.heap.size 23 1 (.slice (some ⟨w1.heap.size, 0, none⟩) 0 0) 0 [] := own_far (own_made w1 _ 1 [] 0 rfl (by decide)) (grown_same (World.grownBy_alloc _ _ _) hg3) (by omega)
  clear hv hv17 hg3
  go_wp2_with fail
  go_loopw [5, 6] (fun v i wr => ∃ (x : Int) (rs : Rws) (p : Nat), i = .int .i64 x ∧ 0 ≤ x ∧ x + rs.length ≤ 7 ∧ p ≤ 1 + 30 * rs.length ∧ wr.ownsRow w1.heap.size 23 1 v rs.length (rs.map crw) ∧ RowsOk wr w.heap.size v rs ∧ Rd wr w.heap.size p ∧ w1.grownBy wr (some w.heap.size)) (fun _ i _ => (intOf i).toNat)
  case atStart => exact ⟨v, [], 0 + 1, rfl, hv0, by simp; omega, by simp, ho3, fun r hr => (by cases hr), hrd3, hG3⟩
  case round =>
    clear ho3 hrd3 hG3 hv0 hv1
    obtain ⟨x, rs, p, rfl, hx0, hx1, hp, hown, hrows, hrd, hg⟩ := hrel
    by_cases hlt : 0 < x
    · go_wp2_with fail
      refine (anySettings_any w.heap.size p wr hrd (by omega)).mono ?_
      rintro e wa ⟨B, d, ys, q, rfl, hs, hl, hq, hrda, hga, hA⟩
      have howna := own_far hown hga (by omega)
      have hGa := grown_same hg hga
      have hrowsa := hrows.reader hga
      have hok := hd (show ∀ ad, B = some ad → 0 < ys.length → ad.block ≠ w.heap.size ∧ u5.ownBlock ≠ some ad.block from fun ad e _ => by
        have h1 := hA ad e
        have h2 := hg.size
        refine ⟨by omega, fun e' => ?_⟩
        have := (hown.lt _ e').2
        omega)
      clear hown hrd hg hga hrows hA
      go_wp2_with (at_builtin; refine wpList_app_at eltL (.tmp 17) (.tmp 20) (news := [.slice B ys.length d]) (m := 1) howna rfl (by intro u hu; simp at hu; subst hu; rfl) (by omega) (by omega) hGa.size (by rfl) (by rfl) (by rfl) (by rfl) ?_; intro v' w4 hown4 hg4 hat4)
      have HAT := hd hat4
      clear hat4
      go_roundw
      case rel => exact ⟨x - 1, rs ++ [(B, d, ys)], q, rfl, by omega, by simp; omega, by simp; omega, by rw [List.map_append, List.length_append]; exact hown4, hrowsa.push (r := (B, d, ys)) hs hl hok.out hg4 HAT.out, hrda.grown hg4 (fun j hj => by have := own_ge howna j hj; omega), grown_step hGa hg4 (fun j hj => .inr (own_ge howna j hj))⟩
      case measure => simp [intOf]; omega
    · obtain rfl : x = 0 := by omega
      go_wp2_with fail
      refine (anySettings_any w.heap.size p wr hrd (by omega)).mono ?_
      rintro e wa ⟨B, d, ys, q, rfl, hs, hl, hq, hrda, hga, hA⟩
      have howna := own_far hown hga (by omega)
      have hGa := grown_same hg hga
      have hrowsa := hrows.reader hga
      obtain ⟨A2, c2, rfl, hso, _⟩ := Sl.of_own howna
      have hbz := ext_grown hb hGa (fun k e => by injection e with e; omega)
      clear hown hrd hg hga hrows hA howna hGa
      have HF := hd (show SlL wa A2 c2 rs ∧ (∀ r ∈ rs, r.2.2.length ≤ 11) from ⟨⟨hso, fun r hr => (hrowsa r hr).1⟩, fun r hr => (hrowsa r hr).2.1⟩)
      clear hso hrowsa
      go_wp2
      go_ret2
      exact ⟨A2, B, c2, d, rs, ys, rfl, HF.out.1, hs, by omega, HF.out.2, hl, hbz⟩
end Go.Proofs.Ytabemhjbpnnlpaa
