/- The walk of laws.FnRouteReadDown. -/
import Derived.Test.YtifoecghanmofaaPRr
import Derived.Test.YtifoecghanmofaaDrH
import Derived.Test.YtifoecghanmofaaMem2
namespace Go.Proofs.Ytifoecghanmofaa
open Go.RowKit
/-- All hosts down. -/
def dwn (xs : List Ho) : List Ho := xs.map fun s => (s.1, s.2.1, true)
theorem dwn_len (xs : List Ho) : (dwn xs).length = xs.length := by simp [dwn]
theorem dwn_next {xs : List Ho} {k : Nat} (h : k < xs.length) : dwn (xs.take (k + 1)) = dwn (xs.take k) ++ [(xs[k].1, xs[k].2.1, true)] := by
  rw [List.take_succ_eq_append_getElem h, dwn, List.map_append]; rfl
theorem RR_dwn (xs : List Ho) (lag : Int) : RR (dwn xs) lag = -1 := by
  unfold RR
  split
  · have B := best_RT (dwn xs) lag
    by_cases hz : RT (dwn xs) lag < 0
    · exact (B.none hz).1
    · obtain ⟨k, hk⟩ : ∃ k : Nat, RT (dwn xs) lag = (k : Int) := ⟨(RT (dwn xs) lag).toNat, by omega⟩
      obtain ⟨_, ⟨h1, h2, _⟩, _⟩ := B.some k hk
      simp [dwn] at h2
  · rfl
theorem RW_dwn (xs : List Ho) : RW (dwn xs) = -1 := by
  cases xs with
  | nil => exact RW_no1 rfl
  | cons x r => exact RW_no2 (xs := dwn (x :: r)) (by simp [dwn]) rfl
set_option maxRecDepth 100000 in
set_option maxHeartbeats 2000000 in
theorem lawRouteReadDown (A : Option Addr) (n c : Nat) (w : World) (h : SlB w A n c) :
    Calls Try.prog 9 #[.slice A n c] w fun e w' => e = .returned (.bool true) ∧ Below w.heap.size w w' := by
  have hmax := h.2.1
  have hcap := h.1
  unfold maxLen at hmax
  by_cases hn : 1048576 < n
  · go_enter Try.func9, Try.ntmps9
    go_wp2
    go_ret
    exact ⟨rfl, Below.refl _ _⟩
  · go_enter Try.func9, Try.ntmps9
    go_wp2_with fail
    refine (drawRouteRead_any A n c w h).mono ?_
    rintro e w1 ⟨B, d, ys, lag, rfl, hs, hl1, hl, hlag, hb1⟩
    clear hlag
    have hbm := hs.max
    have hbc := hs.cap
    unfold maxLen at hbm
    go_wp2_with fail
    refine (rr_any B d ys lag w1 hs).mono ?_
    rintro e w2 ⟨rfl, hx2⟩
    have hs2 := hs.ext hx2
    have hb2 := ext_trans hb1 hx2
    clear hs hx2 hb1
    go_wp2_with fail
    refine (sRR_any B d ys lag w2 hs2).mono ?_
    rintro e w3 ⟨rfl, hx3⟩
    have hs3 := hs2.ext hx3
    have hb3 := ext_trans hb2 hx3
    clear hs2 hx3 hb2
    have gne : (RR ys lag != RR ys lag) = false := by simp
    have geq : (RR ys lag == RR ys lag) = true := by simp
    have ho4 := hd (own_made w3 27 3 [] 0 rfl (by decide))
    have HS := hd hs3
    have HB := hd hb3
    clear hs3 hb3
    go_wp2_with fail
    go_loopw [6, 7] (fun v i wr => ∃ k : Nat, k ≤ ys.length ∧ i = .int .i64 k ∧ wr.ownsRow w3.heap.size 27 3 v k (cho (dwn (ys.take k))) ∧ Below w3.heap.size w3 wr) (fun _ i _ => ys.length - (intOf i).toNat)
    case atStart => exact ⟨0, by omega, rfl, ho4.out, (Below.refl _ _).alloc (Nat.le_refl _) _⟩
    case round =>
      obtain ⟨k, hk, rfl, hown, hbx⟩ := hrel
      by_cases hlt : k < ys.length
      · obtain ⟨ad, rfl, hbl, -, -, -⟩ := HS.out.at hlt
        obtain ⟨hc0, hc1, -⟩ := slH_at3 (HS.out.ext hbx) hlt
        have hne : ∀ i, some (ad.add i).block ≠ u6.ownBlock := fun i e => by rw [blk_add] at e; have := own_ge hown _ e.symm; omega
        have HN := hd (show cho (dwn (ys.take (k + 1))) = cho (dwn (ys.take k)) ++ cho [(ys[k].1, ys[k].2.1, true)] by rw [dwn_next hlt, cho_append])
        go_wp2_with fail
        go_region_held3 (fun w' => w'.cell? (ad.add (k * 3)) = some (.int .i64 ys[k].1) ∧ w'.cell? ⟨(ad.add (k * 3)).block, (ad.add (k * 3)).off + 1, none⟩ = some (.int .i64 ys[k].2.1))
          (first | go_keep | (go_split_ands; exact ⟨hg3.cell hc0 (hne _), hg3.cell hc1 (hne _)⟩))
          ((refine step_app eltH _ _ (news := cho [(ys[k].1, ys[k].2.1, true)]) (m := 1) hown rfl (cho_one _) (by omega) (by omega) hbx.size (by rfl) (by rfl) (by rfl) (by rfl) ?_; intro v' w5 hown3 hg3))
        go_wp2
        go_roundw
        case rel => exact ⟨k + 1, by omega, by go_num, by rw [HN.out]; exact hown3, hbx.grown hg3 hbx.size (own_ge hown)⟩
        case measure => simp [intOf]; omega
      · obtain rfl : k = ys.length := by omega
        rw [List.take_length] at hown
        obtain ⟨N, nc, rfl, hns, _⟩ := slH_of_own hown rfl (dwn_len ys).symm
        have hb := ext_trans HB.out hbx
        have HR := hd (RR_dwn ys lag)
        have HW := hd (RW_dwn ys)
        obtain ⟨zs, hz⟩ : ∃ zs, zs = dwn ys := ⟨_, rfl⟩
        rw [← hz] at hns HR HW ⊢
        clear hown hbx hz
        go_wp2_with fail
        refine (rr_any N nc zs lag _ hns).mono ?_
        rintro e w6 ⟨rfl, hx6⟩
        have hns6 := hns.ext hx6
        have hb6 := ext_trans hb hx6
        rw [HR.out]
        go_wp2_with fail
        refine (rw_any N nc zs _ hns6).mono ?_
        rintro e w7 ⟨rfl, hx7⟩
        have hb7 := ext_trans hb6 hx7
        rw [HW.out]
        go_wp2
        go_ret
        exact ⟨by rfl, hb7⟩
end Go.Proofs.Ytifoecghanmofaa
