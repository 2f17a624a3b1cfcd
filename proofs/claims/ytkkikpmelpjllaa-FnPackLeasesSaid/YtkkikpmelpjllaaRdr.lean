/- The reader of drawn numbers: spec.newReader, pick, one. -/
import Derived.Test.YtkkikpmelpjllaaW1
import Derived.Test.YtkkikpmelpjllaaMem
import Derived.BigGuardPart
import Derived.Deep.QuietTactic
import Derived.BigQuiet
import Derived.Laws.BitsAllLaws
import Derived.Laws.BitsLemmas
namespace Go.Proofs.Ytkkikpmelpjllaa
open Go.RowKit

theorem ofInt64 (a : Nat) (ha : a < 9223372036854775808) : (BitVec.ofInt 64 (a : Int)).toNat = a := by
  rw [BitVec.ofInt_natCast, BitVec.toNat_ofNat]; exact Nat.mod_eq_of_lt (by omega)
theorem xor64 (a b : Int) (ha : 0 ≤ a) (ha' : a < 9223372036854775808) (hb : 0 ≤ b) (hb' : b < 9223372036854775808) : 0 ≤ bits .xor .i64 a b := by
  obtain ⟨m, rfl⟩ := Int.eq_ofNat_of_zero_le ha
  obtain ⟨n, rfl⟩ := Int.eq_ofNat_of_zero_le hb
  have hx : m ^^^ n < 2 ^ 63 := Nat.xor_lt_two_pow (by omega) (by omega)
  have e : bits .xor .i64 (m : Int) (n : Int) = ((m ^^^ n : Nat) : Int) := by
    show IntKind.i64.wrap ((BitVec.ofInt 64 (m : Int) ^^^ BitVec.ofInt 64 (n : Int)).toNat : Int) = _
    rw [BitVec.toNat_xor, ofInt64 m (by omega), ofInt64 n (by omega), IntKind.wrap_i64]
    omega
  rw [e]; omega

/-- Bytes in memory: a slice of at most 2000 bytes, in a block older than rb. -/
def Byt (w : World) (rb : Nat) (A : Option Addr) (m : Nat) : Prop :=
  m ≤ 2000 ∧ (0 < m → ∃ ad, A = some ad ∧ ad.block < rb ∧ ∀ j, j < m → ∃ b : Int, 0 ≤ b ∧ b ≤ 255 ∧ w.cell? (ad.add j) = some (.int .u8 b))
/-- A reader in block rb that has read p numbers. -/
def Rd (w : World) (rb p : Nat) : Prop :=
  ∃ A m c, w.heap[rb]? = some (.cells #[.slice A m c, .int .i64 p] 52 (0, 0)) ∧ Byt w rb A m
theorem Rd.lt {w : World} {rb p : Nat} (h : Rd w rb p) : rb < w.heap.size := by
  obtain ⟨_, _, _, h, _⟩ := h; exact lt_of_block h
/-- What leaves the reader alone leaves it a reader: only blocks that are neither the reader's nor older than .. -/
theorem Rd.ext {w w' : World} {rb p : Nat} (h : Rd w rb p) (hb : Below w.heap.size w w') : Rd w' rb p := by
  have hl := h.lt
  obtain ⟨A, m, c, h1, h2, h3⟩ := h
  refine ⟨A, m, c, (hb.block rb hl).trans h1, h2, fun hm => ?_⟩
  obtain ⟨ad, e, hbl, hc⟩ := h3 hm
  refine ⟨ad, e, hbl, fun j hj => ?_⟩
  obtain ⟨b, b1, b2, b3⟩ := hc j hj
  exact ⟨b, b1, b2, (hb.cell (by rw [blk_add]; omega)).trans b3⟩
theorem Rd.grown {w w' : World} {rb p : Nat} {row : Option Nat} (h : Rd w rb p) (hg : w.grownBy w' row) (hr : ∀ k, row = some k → rb < k) : Rd w' rb p := by
  have hl := h.lt
  obtain ⟨A, m, c, h1, h2, h3⟩ := h
  refine ⟨A, m, c, (hg.block rb hl (fun e => by have := hr rb e.symm; omega)).trans h1, h2, fun hm => ?_⟩
  obtain ⟨ad, e, hbl, hc⟩ := h3 hm
  refine ⟨ad, e, hbl, fun j hj => ?_⟩
  obtain ⟨b, b1, b2, b3⟩ := hc j hj
  exact ⟨b, b1, b2, hg.cell b3 (by rw [blk_add]; exact fun e => by have := hr _ e.symm; omega)⟩
theorem grown_drewN {w w' : World} {row : Option Nat} (h : w.grownBy w' row) (n : Nat) : w.grownBy (w'.drewN n) row := ⟨h.os, h.tape, h.output, h.size, h.block⟩
theorem set_size (w : World) (p : Addr) (u : Value) : (w.setCell p u).heap.size = w.heap.size := by simp [World.setCell]
theorem Rd.set {w : World} {rb p : Nat} {A : Option Addr} {m c : Nat} (h1 : w.heap[rb]? = some (.cells #[.slice A m c, .int .i64 p] 52 (0, 0))) (h2 : Byt w rb A m) (q n : Nat) :
    Rd ((w.setCell ⟨rb, 1, none⟩ (.int .i64 q)).drewN n) rb q := by
  refine ⟨A, m, c, ?_, h2.1, fun hm => ?_⟩
  · show (w.setCell ⟨rb, 1, none⟩ (.int .i64 q)).heap[rb]? = _
    simp [World.setCell, Array.getElem?_modify, h1]
  · obtain ⟨ad, e, hbl, hc⟩ := h2.2 hm
    have hne : ad.block ≠ rb := by omega
    refine ⟨ad, e, hbl, fun j hj => ?_⟩
    obtain ⟨b, b1, b2, b3⟩ := hc j hj
    refine ⟨b, b1, b2, ?_⟩
    show (w.setCell ⟨rb, 1, none⟩ (.int .i64 q)).cell? (ad.add j) = _
    rw [World.cell?_setCell_other _ _ _ _ (fun e => hne (by rw [← blk_add ad j, ← e]))]
    exact b3
theorem only_set (w : World) (rb o : Nat) (u : Value) (n : Nat) : w.grownBy ((w.setCell ⟨rb, o, none⟩ u).drewN n) (some rb) :=
  ⟨rfl, rfl, rfl, by show _ ≤ (w.setCell _ _).heap.size; rw [set_size]; exact Nat.le_refl _, fun k _ hne => Below.heap_setCell w _ u k (fun e => hne (by rw [e]))⟩

/-- What a pick leaves. -/
def Picked (w : World) (rb p : Nat) (n : Int) (e : Ending) (w' : World) : Prop :=
  ∃ v : Int, e = .returned (.int .i64 v) ∧ 0 ≤ v ∧ (1 ≤ n → v < n) ∧ Rd w' rb (p + 1) ∧ w.grownBy w' (some rb) ∧ w'.heap.size = w.heap.size

set_option maxHeartbeats 1000000 in
theorem pick_any (rb p : Nat) (n : Int) (w : World) (h : Rd w rb p) (hp : p ≤ 1000000) (hn : n ≤ 1000000) :
    Calls Try.prog 30 #[.pointer (some ⟨rb, 0, none⟩), .int .i64 n] w (Picked w rb p n) := by
  obtain ⟨A, m, c, hblk, hm, hby⟩ := h
  have HB : Hid (w.heap[rb]? = some (.cells #[.slice A m c, .int .i64 p] 52 (0, 0))) := hblk
  have HY : Hid (Byt w rb A m) := ⟨hm, hby⟩
  have c0 : w.cell? ⟨rb, 0, none⟩ = some (.slice A m c) := by simp [World.cell?, hblk]
  have c1 : w.cell? ⟨rb, 1, none⟩ = some (.int .i64 p) := by simp [World.cell?, hblk]
  have f1 : w.frozen? ⟨rb, 1, none⟩ = false := by simp [World.frozen?, hblk]
  by_cases h1 : n < 1
  · clear hby hblk
    go_enter Try.func30, Try.ntmps30
    go_wp2
    go_ret
    exact ⟨0, rfl, Int.le_refl _, fun h => absurd h (by omega), Rd.set HB.out HY.out (p + 1) 0, only_set w rb 1 _ 0, set_size _ _ _⟩
  · by_cases h2 : m = 0
    · subst h2
      clear hby hblk
      go_enter Try.func30, Try.ntmps30
      go_wp2
      go_ret
      exact ⟨0, rfl, Int.le_refl _, fun h => by omega, Rd.set HB.out HY.out (p + 1) 0, only_set w rb 1 _ 0, set_size _ _ _⟩
    · obtain ⟨ad, rfl, hbl, hc⟩ := hby (by omega)
      have hne : ad.block ≠ rb := by omega
      have hcs : ∀ j b, w.cell? (ad.add j) = some (.int .u8 b) → (w.setCell ⟨rb, 1, none⟩ (.int .i64 ((p : Int) + 1))).cell? (ad.add j) = some (.int .u8 b) := fun j b hb => by
        rw [World.cell?_setCell_other _ _ _ _ (fun e => hne (by rw [← blk_add ad j, ← e]))]; exact hb
      by_cases h3 : p < m
      · obtain ⟨b, b1, b2, b3⟩ := hc p h3
        have b4 := hcs p b b3
        clear hcs hc hby hblk
        go_enter Try.func30, Try.ntmps30
        go_wp2
        go_ret
        exact ⟨b % n, rfl, Int.emod_nonneg _ (by omega), fun _ => Int.emod_lt_of_pos _ (by omega), Rd.set HB.out HY.out (p + 1) 0, only_set w rb 1 _ 0, set_size _ _ _⟩
      · obtain ⟨b, b1, b2, b3⟩ := hc (p % m) (Nat.mod_lt p (Nat.pos_of_ne_zero h2))
        obtain ⟨d, d1, d2, d3⟩ := hc ((p * 7 + 3) % m) (Nat.mod_lt (p * 7 + 3) (Nat.pos_of_ne_zero h2))
        have hm0 : (m : Int) ≠ 0 := by clear hc hcs hby; omega
        have hmp : (0 : Int) < m := by clear hc hcs hby; omega
        have e1 := Int.emod_nonneg (p : Int) hm0
        have e2 := Int.emod_lt_of_pos (p : Int) hmp
        have e3 := Int.emod_nonneg ((p : Int) * 7 + 3) hm0
        have e4 := Int.emod_lt_of_pos ((p : Int) * 7 + 3) hmp
        have q1 : 0 ≤ (p : Int) / (m : Int) := Int.ediv_nonneg (by clear hc hcs hby; omega) (Int.le_of_lt hmp)
        have q2 : (p : Int) / (m : Int) ≤ 1000000 := Int.le_trans (Int.ediv_le_self _ (by clear hc hcs hby; omega)) (by clear hc hcs hby; omega)
        have HM := hd hm0
        clear hm0
        have b4 := hcs _ b b3
        have d4 := hcs _ d d3
        clear hcs hc hby hblk
        go_enter Try.func30, Try.ntmps30
        go_wp2_with fail
        go_quiet (fail)
        go_wp2
        go_ret
        refine ⟨_, rfl, Int.tmod_nonneg _ (xor64 _ _ (by omega) (by omega) (by omega) (by omega)), fun _ => Int.tmod_lt_of_pos _ (by omega), Rd.set HB.out HY.out (p + 1) _, only_set w rb 1 _ _, set_size _ _ _⟩

theorem Sl.keepRow {w w' : World} {k n c rb : Nat} {A : Option Addr} {xs : List Value} (h : Sl w k A n c xs) (hg : w.grownBy w' (some rb)) (hA : ∀ ad, A = some ad → ad.block ≠ rb) : Sl w' k A n c xs :=
  ⟨h.1, h.2.1, h.2.2.1, fun hn => by
    obtain ⟨ad, e, hb, hc⟩ := h.addr hn
    exact ⟨ad, e, Nat.lt_of_lt_of_le hb hg.size, fun j u hu => hg.cell (hc j u hu) (by rw [blk_add]; exact fun e' => hA ad e (by injection e'))⟩⟩
/-- What 'one' leaves. -/
def Oned (w : World) (rb p : Nat) (xs : List Int) (e : Ending) (w' : World) : Prop :=
  ∃ v : Int, e = .returned (.int .i64 v) ∧ v ∈ xs ∧ Rd w' rb (p + 1) ∧ w.grownBy w' (some rb) ∧ w'.heap.size = w.heap.size
set_option maxHeartbeats 400000 in
theorem one_any (rb p : Nat) (A : Option Addr) (c : Nat) (xs : List Int) (w : World) (h : Rd w rb p) (hp : p ≤ 1000000) (hs : SlI w A c xs) (h0 : 0 < xs.length) (h1 : xs.length ≤ 1000) (hA : ∀ ad, A = some ad → ad.block ≠ rb) :
    Calls Try.prog 31 #[.pointer (some ⟨rb, 0, none⟩), .slice A xs.length c] w (Oned w rb p xs) := by
  go_enter Try.func31, Try.ntmps31
  go_wp2_with fail
  refine (pick_any rb p xs.length w h hp (by omega)).mono ?_
  rintro e w' ⟨v, rfl, hv0, hv1, hrd, hg, hz⟩
  have hv2 := hv1 (by omega)
  have hs' : SlI w' A c xs := Sl.keepRow hs hg hA
  obtain ⟨ad, rfl, hbl, hc⟩ := hs'.at (i := v.toNat) (by omega)
  have hm : xs[v.toNat]'(by omega) ∈ xs := List.getElem_mem _
  clear hA hv1
  go_wp2
  go_ret
  exact ⟨_, rfl, hm, hrd, hg, hz⟩

/-- The law's bytes. -/
def SlB (w : World) (A : Option Addr) (n c : Nat) : Prop :=
  n ≤ c ∧ c ≤ maxLen ∧ (0 < n → ∃ ad, A = some ad ∧ ad.block < w.heap.size ∧ ∀ j, j < n → ∃ b : Int, 0 ≤ b ∧ b ≤ 255 ∧ w.cell? (ad.add j) = some (.int .u8 b))
theorem rd_new (w : World) (A : Option Addr) (n m c : Nat) (h : SlB w A n c) (hm : m ≤ n) (hm2 : m ≤ 2000) : Rd (w.alloc (.cells #[.slice A m c, .int .i64 ((0 : Nat) : Int)] 52)) w.heap.size 0 := by
  refine ⟨A, m, c, heap_alloc_new w _, hm2, fun h0 => ?_⟩
  obtain ⟨ad, e, hb, hc⟩ := h.2.2 (by omega)
  refine ⟨ad, e, hb, fun j hj => ?_⟩
  obtain ⟨b, b1, b2, b3⟩ := hc j (by omega)
  exact ⟨b, b1, b2, (World.cell?_alloc_lt w _ _ (by rw [blk_add]; exact hb)).trans b3⟩
/-- What 'newReader' leaves. -/
def Readered (w : World) (e : Ending) (w' : World) : Prop :=
  e = .returned (.pointer (some ⟨w.heap.size, 0, none⟩)) ∧ Rd w' w.heap.size 0 ∧ Below w.heap.size w w' ∧ w'.heap.size = w.heap.size + 1
set_option maxHeartbeats 400000 in
theorem newReader_any (A : Option Addr) (n c : Nat) (w : World) (h : SlB w A n c) :
    Calls Try.prog 11 #[.slice A n c] w (Readered w) := by
  have h1 := h.1
  have h2 := h.2.1
  unfold maxLen at h2
  by_cases hn : 2000 < n
  · have R := rd_new w A n 2000 c h (by omega) (Nat.le_refl _)
    go_enter Try.func11, Try.ntmps11
    go_wp2
    go_ret
    exact ⟨rfl, R, (Below.refl _ _).alloc (Nat.le_refl _) _, by simp⟩
  · have R := rd_new w A n n c h (Nat.le_refl _) (by omega)
    go_enter Try.func11, Try.ntmps11
    go_wp2
    go_ret
    exact ⟨rfl, R, (Below.refl _ _).alloc (Nat.le_refl _) _, by simp⟩
end Go.Proofs.Ytkkikpmelpjllaa
