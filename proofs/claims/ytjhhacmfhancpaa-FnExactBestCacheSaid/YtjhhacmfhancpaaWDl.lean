/- Contracts of slices.Delete, slices.Index, slices.Contains over numbers. -/
import Derived.Test.YtjhhacmfhancpaaWI
import Derived.Deep.RegionLaw
import Derived.Lib.SliceRun
import Derived.Lib.SlicesDelete
namespace Go.Proofs.Ytjhhacmfhancpaa
open Go.RowKit Go.Lib Go.Sort
/-- New numbers as the cells of their block. -/
theorem RwI.holds {w : World} {B : Nat} {A : Option Addr} {c : Nat} {xs : List Int} (h : RwI w B A c xs) (h0 : 0 < xs.length) :
    ∃ g cur, A = some ⟨g, 0, none⟩ ∧ B ≤ g ∧ w.heap[g]? = some (.cells cur 3 (0, 0)) ∧ Holds (Value.int .i64) w g 0 xs.toArray := by
  obtain ⟨g, cur, e, hb, hg⟩ := h.2 h0
  subst e
  refine ⟨g, cur, rfl, hb, hg, fun j hj => ⟨?_, by simp [World.frozen?, hg]⟩⟩
  have hj' : j < xs.length := by simpa using hj
  have h1 := SlI.at1 h.sl hj'
  have e0 : (⟨g, 0, none⟩ : Addr).add j = ⟨g, j, none⟩ := by unfold Addr.add; split <;> simp_all
  rw [e0] at h1
  rw [Nat.zero_add, h1, getElem!_pos xs.toArray j hj]
  rfl
theorem putRow_block {w : World} {g : Nat} {cur : Array Value} {e : TypeId} (hg : w.heap[g]? = some (.cells cur e (0, 0))) (q : Nat) (d : Array Int) :
    (putRow (Value.int .i64) (Sort.ahead w q) g 0 d).heap[g]? = some (.cells (putCells (Value.int .i64) 0 d cur) e (0, 0)) := by
  simp [putRow, mapBlock, Sort.ahead, Array.getElem?_modify, hg, onCells]
theorem putRow_grown (w : World) (g q : Nat) (d : Array Int) : w.grownBy (putRow (Value.int .i64) (Sort.ahead w q) g 0 d) (some g) :=
  ⟨rfl, rfl, rfl, by simp [putRow, mapBlock, Sort.ahead], fun k _ hne => by
    have : g ≠ k := fun e => hne (by rw [e])
    simp [putRow, mapBlock, Sort.ahead, Array.getElem?_modify, this]⟩
/-- The block with other numbers laid on it. -/
theorem rwI_putRow {w : World} {B g c : Nat} {cur : Array Value} {xs zs : List Int} (hg : w.heap[g]? = some (.cells cur 3 (0, 0))) (hb : B ≤ g) (hH : Holds (Value.int .i64) w g 0 xs.toArray) (hl : zs.length = xs.length) (hc : xs.length ≤ c) (hm : c ≤ maxLen) (q : Nat) :
    RwI (putRow (Value.int .i64) (Sort.ahead w q) g 0 zs.toArray) B (some ⟨g, 0, none⟩) c zs := by
  have hH2 := holds_putRow (Value.int .i64) (Sort.ahead w q) g 0 xs.toArray zs.toArray (holds_ahead (Value.int .i64) w q g 0 xs.toArray hH) (by simpa using hl)
  refine ⟨⟨by simp [ci], by omega, hm, fun _ => ⟨_, rfl, lt_of_block (putRow_block hg q zs.toArray), fun j u hu => ?_⟩⟩, fun _ => ⟨g, _, rfl, hb, putRow_block hg q zs.toArray⟩⟩
  have hj : j < zs.length := by
    have := (List.getElem?_eq_some_iff.1 hu).1
    rwa [ci_length] at this
  have e0 : (⟨g, 0, none⟩ : Addr).add j = ⟨g, j, none⟩ := by unfold Addr.add; split <;> simp_all
  have h1 := (hH2 j (by simpa using hj)).1
  rw [Nat.zero_add, getElem!_pos zs.toArray j (by simpa using hj)] at h1
  rw [e0, h1, ← hu]
  simp [ci, hj]
theorem RwI.take {w : World} {B : Nat} {A : Option Addr} {c : Nat} {xs : List Int} (h : RwI w B A c xs) {m : Nat} (hm : m ≤ xs.length) : RwI w B A c (xs.take m) := by
  refine ⟨h.sl.take hm, fun h0 => h.2 ?_⟩
  rw [List.length_take] at h0
  omega
set_option maxHeartbeats 4000000 in
set_option maxRecDepth 1000000 in
theorem del_walk (g off cap i j : Nat) (d : Array Int) (w : World) (hH : Holds (Value.int .i64) w g off d) (hcap : d.size ≤ cap) (hm : cap ≤ 9223372036854775807) (hlt : i < j) (hj : j ≤ d.size) :
    Calls Try.prog 36 #[.slice (some ⟨g, off, none⟩) d.size cap, .int .i64 i, .int .i64 j] w fun e w' => e = .returned (.slice (some ⟨g, off, none⟩) (d.size - (j - i)) cap) ∧ ∃ q, w' = putRow (Value.int .i64) (Sort.ahead w q) g off (d.toList.take i ++ d.toList.drop j ++ List.replicate (j - i) 0).toArray := by
  obtain ⟨i0, hi0, hz0, hz1, hz2⟩ := info_parts eltI.hi
  obtain ⟨news, hnews⟩ : ∃ news, news = (d.toList.drop j).map (Value.int .i64) := ⟨_, rfl⟩
  have hlen : news.length = d.size - j := by rw [hnews]; simp
  have hget : ∀ t, t < d.size - j → news[t]? = some (.int .i64 d[j + t]!) := by
    intro t ht
    rw [hnews, List.getElem?_map, List.getElem?_drop, Array.getElem?_toList, getElem!_pos d (j + t) (by omega), Array.getElem?_eq_getElem (by omega)]
    rfl
  obtain ⟨A, hA, hsrc⟩ : ∃ A : Addr, (if cap = j then some (⟨g, off, none⟩ : Addr) else some ⟨g, off + j, none⟩) = some A ∧ Hid (∀ t u, news[t]? = some u → w.drew.cell? (A.add t) = some u) := by
    by_cases h : cap = j
    · refine ⟨⟨g, off, none⟩, by simp [h], fun t u hu => ?_⟩
      have h0 : news.length = 0 := by rw [hlen]; omega
      rw [List.length_eq_zero_iff.1 h0] at hu
      simp at hu
    · refine ⟨⟨g, off + j, none⟩, by simp [h], fun t u hu => ?_⟩
      have ht : t < d.size - j := by
        have := (List.getElem?_eq_some_iff.1 hu).1
        rwa [hlen] at this
      rw [hget t ht] at hu
      rw [Addr.add_lit, show off + j + t = off + (j + t) by omega]
      exact (hH (j + t) (by omega)).1.trans hu
  have s1 : Hid (news.length = (d.size - j) * 1) := by rw [Nat.mul_one]; exact hlen
  have s2 : Hid (∀ u ∈ news, u.oneCell' = true) := by
    intro u hu
    rw [hnews] at hu
    obtain ⟨x, _, rfl⟩ := List.mem_map.1 hu
    rfl
  have s3 : Hid (∀ t, t < news.length → (w.drew.cell? ⟨g, off + i * 1 + t, none⟩).isSome = true ∧ w.drew.frozen? ⟨g, off + i * 1 + t, none⟩ = false) := by
    intro t ht
    rw [hlen] at ht
    rw [Nat.mul_one, Nat.add_assoc]
    exact ⟨by show (w.cell? _).isSome = true; rw [(hH (i + t) (by omega)).1]; rfl, (hH (i + t) (by omega)).2⟩
  obtain ⟨W1, hW1⟩ : ∃ W1, W1 = w.drew.setCells g (off + i * 1) news := ⟨_, rfl⟩
  have hW1' : W1 = putRow (Value.int .i64) (Sort.ahead w 1) g off (lay d i (d.toList.drop j)) := by
    rw [hW1, hnews, Nat.mul_one, ← putRow_setCells (Value.int .i64) (Sort.ahead w 1) g off _ d i (by simp; omega), putRow_self (Value.int .i64) (Sort.ahead w 1) g off d (holds_ahead (Value.int .i64) w 1 g off d hH)]
    rfl
  have hH1 : Holds (Value.int .i64) W1 g off (lay d i (d.toList.drop j)) := by rw [hW1']; exact holds_putRow (Value.int .i64) _ g off d _ (holds_ahead (Value.int .i64) w 1 g off d hH) (lay_size _ _ _)
  have hcl : ∀ ty, (Builtin.clear_ #[22] ty #[.slice (some ⟨g, off + (i + (d.size - j)), none⟩) (d.size - (i + (d.size - j))) (cap - (i + (d.size - j)))]).run Try.prog W1 = .ok (.tuple #[]) (W1.setCells g (off + (i + (d.size - j))) (List.replicate (d.size - (i + (d.size - j))) (.int .i64 0))) :=
    fun ty => Lib.run_clear_slice W1 _ _ ty _ Try.underlying22 (fun w => by kernel_rfl) rfl rfl g (off + (i + (d.size - j))) _ _ (by omega) (fun t ht => by rw [show off + (i + (d.size - j)) + t = off + (i + (d.size - j) + t) by omega, (hH1 _ (by rw [lay_size]; omega)).1]; rfl) (fun t ht => by rw [show off + (i + (d.size - j)) + t = off + (i + (d.size - j) + t) by omega]; exact (hH1 _ (by rw [lay_size]; omega)).2)
  have X : Hid (W1 = putRow (Value.int .i64) (Sort.ahead w 1) g off (lay d i (d.toList.drop j))) := hW1'
  have hW : Hid (W1 = w.drew.setCells g (off + i * 1) news) := hW1
  have hic : i ≤ cap := by omega
  have hjc : j ≤ cap := by omega
  clear hW1 hW1' hH1 hH hget hnews hlen
  go_enter Try.func36, Try.ntmps36
  go_wp2_with fail
  go_region_law (refine step_append_room rfl (.tmp 22) (.tmp 25) 22 rfl 3 i0 1 Try.underlying22 hi0 hz1 g off i cap (by simp [Act.eval, Act.put]) A (d.size - j) (cap - j) news (by simp [Act.eval, Act.put]) s1.out hsrc.out s2.out (by omega) s3.out ?_; rw [← hW.out])
  go_wp2
  go_ret
  refine ⟨by rw [show d.size - (j - i) = i + (d.size - j) by omega]; rfl, 1, ?_⟩
  rw [← delete_arr d i j 0 (by omega) hj, ← putRow_setCells (Value.int .i64) _ g off _ _ (i + (d.size - j)) (by rw [lay_size]; simp; omega), ← X.out, List.map_replicate, show d.size - (i + (d.size - j)) = j - i by omega]
/-- One number struck, in its block. -/
theorem delI_any (B : Nat) (A : Option Addr) (n c : Nat) (xs : List Int) (i : Nat) (jz : Int) (w : World) (h : RwI w B A c xs) (hn : n = xs.length) (hi : i < xs.length) (hjz : jz = (i : Int) + 1) :
    Calls Try.prog 36 #[.slice A n c, .int .i64 i, .int .i64 jz] w fun e w' => e = .returned (.slice A (xs.eraseIdx i).length c) ∧ RwI w' B A c (xs.eraseIdx i) ∧ w.grownBy w' (rowOf A xs.length) := by
  subst hn
  obtain ⟨g, cur, rfl, hb, hg, hH⟩ := h.holds (by omega)
  have hcap := h.sl.cap
  have hmax := h.sl.max
  have hmax' := hmax
  unfold maxLen at hmax'
  have e1 : jz = ((i + 1 : Nat) : Int) := by omega
  subst e1
  have H := del_walk g 0 c i (i + 1) xs.toArray w hH (by simpa using hcap) hmax' (by omega) (by simp; omega)
  simp only [List.size_toArray] at H
  refine H.mono ?_
  rintro e w' ⟨rfl, q, rfl⟩
  have hlen : (xs.take i ++ xs.drop (i + 1) ++ List.replicate (i + 1 - i) 0).length = xs.length := by simp; omega
  have hel : (xs.eraseIdx i).length = xs.length - 1 := List.length_eraseIdx_of_lt hi
  have hr := rwI_putRow (B := B) (c := c) (zs := xs.take i ++ xs.drop (i + 1) ++ List.replicate (i + 1 - i) 0) hg hb hH hlen hcap hmax q
  have hr2 := RwI.take hr (m := xs.length - 1) (by rw [hlen]; omega)
  have e2 : (xs.take i ++ xs.drop (i + 1) ++ List.replicate (i + 1 - i) (0 : Int)).take (xs.length - 1) = xs.eraseIdx i := by
    rw [List.eraseIdx_eq_take_drop_succ, List.take_append_of_le_length (by simp; omega), List.take_of_length_le (by simp; omega)]
  rw [e2] at hr2
  refine ⟨by rw [hel]; simp, ?_, ?_⟩
  · simpa using hr2
  · rw [rowOf_some (by omega)]
    exact putRow_grown w g q _
end Go.Proofs.Ytjhhacmfhancpaa
