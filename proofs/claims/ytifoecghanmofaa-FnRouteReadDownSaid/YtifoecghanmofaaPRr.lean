/- Facts of RouteRead, and a host's cells at a known address. -/
import Derived.Test.YtifoecghanmofaaWRr
namespace Go.Proofs.Ytifoecghanmofaa
open Go.RowKit
theorem RR_some {xs : List Ho} {lag : Int} (h : 0 ≤ RR xs lag) : VH xs = true ∧ inB lag 0 1000 = true ∧ RR xs lag = RT xs lag := by
  by_cases h1 : VH xs = true ∧ inB lag 0 1000 = true
  · exact ⟨h1.1, h1.2, RR_ok h1.1 h1.2⟩
  · have : RR xs lag = -1 := if_neg h1
    omega
theorem RR_more {xs : List Ho} {lag : Int} {n : Nat} (h : RR xs lag = (n : Int)) (hl : lag ≠ 1000) :
    ∃ k : Nat, RR xs (lag + 1) = (k : Int) ∧ k < xs.length ∧ ldo xs k ≤ ldo xs n := by
  obtain ⟨h1, h2, h3⟩ := RR_some (xs := xs) (lag := lag) (by omega)
  have hb := inB_iff.1 h2
  obtain ⟨hn, ⟨hn1, hn2, hn3⟩, _⟩ := (best_RT xs lag).some n (by omega)
  have he : elig xs (lag + 1) n := ⟨hn1, hn2, by omega⟩
  rw [RR_ok h1 (inB_true (by omega) (by omega))]
  have B := best_RT xs (lag + 1)
  by_cases hz : RT xs (lag + 1) < 0
  · exact absurd he ((B.none hz).2 n hn)
  · obtain ⟨k, hk⟩ : ∃ k : Nat, RT xs (lag + 1) = (k : Int) := ⟨(RT xs (lag + 1)).toNat, by omega⟩
    obtain ⟨k1, _, k3⟩ := B.some k hk
    exact ⟨k, hk, k1, (k3 n hn he).1⟩
theorem slH_at3 {w : World} {ad : Addr} {c : Nat} {xs : List Ho} (h : SlH w (some ad) c xs) {i : Nat} (hi : i < xs.length) :
    w.cell? (ad.add (i * 3)) = some (.int .i64 xs[i].1) ∧ w.cell? ⟨(ad.add (i * 3)).block, (ad.add (i * 3)).off + 1, none⟩ = some (.int .i64 xs[i].2.1) ∧ w.cell? ⟨(ad.add (i * 3)).block, (ad.add (i * 3)).off + 2, none⟩ = some (.bool xs[i].2.2) := by
  obtain ⟨ad', e', _, h1, h2, h3⟩ := h.at hi
  injection e' with e'; subst e'
  exact ⟨h1, h2, h3⟩
end Go.Proofs.Ytifoecghanmofaa
