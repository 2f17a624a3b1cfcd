/- What the draws of the owners who ask give. -/
import Derived.Test.YtjgijfmnplcdkaaDrL
namespace Go.Proofs.Ytjgijfmnplcdkaa
open Go.RowKit
/-- Owners who ask, drawn. -/
def Asked (w : World) (rb p : Nat) (e : Ending) (w' : World) : Prop :=
  ∃ (A : Option Addr) (c : Nat) (zs : List Int) (q : Nat), e = .returned (.slice A zs.length c) ∧ SlI w' A c zs ∧ zs.length ≤ 14 ∧ q ≤ p + 17 ∧ Rd w' rb q ∧ w.grownBy w' (some rb) ∧ (∀ ad, A = some ad → w.heap.size ≤ ad.block)
set_option maxHeartbeats 1000000 in
theorem someAsks_any (rb q : Nat) (w2 : World) (hrd2 : Rd w2 rb q) (hq : q ≤ 900000) :
    Calls Try.prog 31 #[.pointer (some ⟨rb, 0, none⟩)] w2 (Asked w2 rb q) := by
  have hz2 := hrd2.lt
  go_enter Try.func31, Try.ntmps31
  go_wp2_with fail
  refine (one_any rb q (some ⟨w2.heap.size + 1, 0, none⟩) 7 [4, 6, 2, 12, 1, 0, 13] _ ((hrd2.ext ((Below.refl _ _).alloc (Nat.le_refl _) _)).ext ((Below.refl _ _).alloc (Nat.le_refl _) _)) (by omega) (by have := slI_made (w2.alloc (.cells #[] 3)) 3 [4, 6, 2, 12, 1, 0, 13] (by decide); rw [World.size_alloc] at this; exact this) (by decide) (by decide) (fun ad e => by injection e with e; subst e; show w2.heap.size + 1 ≠ rb; omega)).mono ?_
  rintro e w3 ⟨v, rfl, hv, hrd3, hg3, -⟩
  have hv2 : 0 ≤ v ∧ v ≤ 13 := by
    simp only [List.mem_cons, List.not_mem_nil, or_false] at hv
    omega
  have hv0 := hv2.1
  have hv1 := hv2.2
  have hG3 : w2.grownBy w3 (some rb) := grown_same (World.grownBy_alloc w2 _ _) (grown_same (World.grownBy_alloc _ _ _) hg3)
  have ho3 : w3.ownsRow w2.heap.size 3 1 (.slice (some ⟨w2.heap.size, 0, none⟩) 0 0) 0 [] := own_far (own_made w2 _ 1 [] 0 rfl (by decide)) (grown_same (World.grownBy_alloc _ _ _) hg3) (by omega)
  clear hv hv2 hg3
  go_wp2_with fail
  go_loopw [3, 4] (fun v i wr => ∃ (x : Int) (ys : List Int) (p : Nat), i = .int .i64 x ∧ 0 ≤ x ∧ x + ys.length ≤ 13 ∧ p ≤ q + 1 + ys.length ∧ wr.ownsRow w2.heap.size 3 1 v ys.length (ci ys) ∧ Rd wr rb p ∧ w2.grownBy wr (some rb)) (fun _ i _ => (intOf i).toNat)
  case atStart => exact ⟨v, [], q + 1, rfl, hv0, by simp; omega, by simp, ho3, hrd3, hG3⟩
  case round =>
    clear ho3 hrd3 hG3 hv0 hv1
    obtain ⟨x, ys, p, rfl, hx0, hx1, hp, hown, hrd, hg⟩ := hrel
    by_cases hlt : 0 < x
    · have hzr : w2.heap.size ≤ wr.heap.size := hg.size
      go_wp2_with fail
      refine (pick_any rb p 5 wr hrd (by omega) (by omega)).mono ?_
      rintro e wa ⟨a, rfl, -, -, hrda, hga, -⟩
      have howna := own_far hown hga (by omega)
      have hGa := grown_same hg hga
      clear hown hrd hg hga
      go_wp2_with (at_builtin; refine wpList_app eltI _ _ (news := ci [a]) (m := 1) howna rfl (ci_one _) (by omega) (by omega) hGa.size (by rfl) (by rfl) (by rfl) (by rfl) ?_; intro v' w4 hown4 hg4)
      go_roundw
      case rel => exact ⟨x - 1, ys ++ [a], p + 1, rfl, by omega, by simp; omega, by simp; omega, by rw [ci_append, List.length_append]; exact hown4, hrda.grown hg4 (fun j hj => by have := own_ge howna j hj; omega), grown_step hGa hg4 (fun j hj => .inr (own_ge howna j hj))⟩
      case measure => simp [intOf]; omega
    · obtain rfl : x = 0 := by omega
      have hzr : w2.heap.size ≤ wr.heap.size := hg.size
      obtain ⟨A2, c2, rfl, hs2, hA2⟩ := slI_of_own hown rfl rfl
      clear hown
      go_wp2_with fail
      refine (spoil_any rb p A2 c2 ys 5 wr hrd (by omega) hs2 (by omega)).mono ?_
      rintro e w5 ⟨A3, c3, zs, q3, rfl, hs3, hl3, hq3, hrd5, hg5, hA3⟩
      have hG5 := grown_same hg hg5
      clear hg hg5 hA2 hs2 hrd
      go_wp2
      go_ret
      exact ⟨A3, c3, zs, q3, rfl, hs3, by omega, by omega, hrd5, hG5, fun ad e => by have := hA3 ad e; omega⟩
end Go.Proofs.Ytjgijfmnplcdkaa
