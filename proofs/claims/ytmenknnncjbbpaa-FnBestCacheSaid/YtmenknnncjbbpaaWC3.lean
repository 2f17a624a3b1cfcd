/- Contracts on caches: DeleteFunc of the numbers like one, use of both. -/
import Derived.Test.YtmenknnncjbbpaaWC2
namespace Go.Proofs.Ytmenknnncjbbpaa
open Go.RowKit Go.Lib Go.Sort
theorem ixB_cases (xs : List Int) (v : Int) : (ixB xs v = -1 ∧ ∀ j, j < xs.length → at0 xs j ≠ v) ∨ ∃ k, k < xs.length ∧ ixB xs v = (k : Int) ∧ at0 xs k = v ∧ ∀ j, j < k → at0 xs j ≠ v := by
  have key : ∀ n, n ≤ xs.length → (∀ j, j < n → at0 xs j ≠ v) ∨ ∃ k, k < n ∧ at0 xs k = v ∧ ∀ j, j < k → at0 xs j ≠ v := by
    intro n
    induction n with
    | zero => intro _; exact .inl fun j hj => absurd hj (Nat.not_lt_zero _)
    | succ n ih =>
      intro hn
      rcases ih (by omega) with h | ⟨k, h1, h2, h3⟩
      · by_cases he : at0 xs n = v
        · exact .inr ⟨n, by omega, he, h⟩
        · refine .inl fun j hj => ?_
          by_cases e : j = n
          · subst e; exact he
          · exact h j (by omega)
      · exact .inr ⟨k, by omega, h2, h3⟩
  rcases key xs.length (Nat.le_refl _) with h | ⟨k, h1, h2, h3⟩
  · exact .inl ⟨ixB_none (not_mem_of h), h⟩
  · exact .inr ⟨k, h1, ixB_hit h1 (by rw [← at0_of h1]; exact h2) h3, h2, h3⟩
theorem slI_holds {w : World} {g off cap : Nat} {d : Array Int} (hH : Holds (Value.int .i64) w g off d) (hcap : d.size ≤ cap) (hm : cap ≤ maxLen) (hg : g < w.heap.size) : SlI w (some ⟨g, off, none⟩) cap d.toList := by
  refine ⟨by simp [ci], by simpa using hcap, hm, fun _ => ⟨_, rfl, hg, fun j u hu => ?_⟩⟩
  have hj : j < d.toList.length := by
    have := (List.getElem?_eq_some_iff.1 hu).1
    rwa [ci_length] at this
  have hj' : j < d.size := by simpa using hj
  rw [Addr.add_lit, (hH j hj').1, getElem!_pos d j hj', ← hu]
  simp [ci, hj']
set_option maxHeartbeats 4000000 in
set_option maxRecDepth 1000000 in
theorem delf_walk (g off cap : Nat) (v : Int) (p : Nat) (d : Array Int) (w : World) (hp : p ≠ g) (c0 : w.cell? ⟨p, 0, none⟩ = some (.int .i64 v)) (hH : Holds (Value.int .i64) w g off d) (hcap : d.size ≤ cap) (hm : cap ≤ maxLen) (hgl : g < w.heap.size) :
    Calls Try.prog 39 #[.slice (some ⟨g, off, none⟩) d.size cap, .func (.func 41) #[] #[.pointer (some ⟨p, 0, none⟩)]] w fun e w' => e = .returned (.slice (some ⟨g, off, none⟩) (d.toList.filter fun x => !(x == v)).length cap) ∧ ∃ q, w' = putRow (Value.int .i64) (Sort.ahead w q) g off ((d.toList.filter fun x => !(x == v)) ++ List.replicate (d.size - (d.toList.filter fun x => !(x == v)).length) 0).toArray := by
  have hm' := hm
  unfold maxLen at hm'
  have hsz : d.size ≤ 9223372036854775807 := by omega
  have tl : ∀ j, j < d.size → at0 d.toList j = d[j]! := fun j hj => by rw [at0_of (by simpa using hj), getElem!_pos d j hj]; simp
  have hIF := ixU_any (some ⟨g, off, none⟩) cap d.toList v p w (slI_holds hH hcap hm hgl) c0
  rw [Array.length_toList] at hIF
  obtain ⟨kp, HK⟩ : ∃ kp : Nat → Bool, Hid (kp = fun j => !(d[j]! == v)) := ⟨_, rfl⟩
  have hfil : (d.toList.filter fun x => !(x == v)) = keptUpTo kp d d.size := by rw [HK.out]; exact (keptUpTo_filter (fun x => !(x == v)) d).symm
  rw [hfil]
  rcases ixB_cases d.toList v with ⟨e1, hall⟩ | ⟨k0, hk0, e1, ht, hall⟩
  · rw [e1] at hIF
    have hkeep : ∀ j, j < d.size → kp j = true := fun j hj => by
      rw [HK.out]; show (!(d[j]! == v)) = true
      rw [← tl j hj]
      simp only [Bool.not_eq_true', beq_eq_false_iff_ne]
      exact hall j (by simpa using hj)
    have e3 : keptUpTo kp d d.size = d.toList := by rw [keptUpTo_all kp d _ hkeep, range_map_get]
    have HH := hd hH
    have HI := hd hIF
    clear hH hIF tl hfil
    go_enter Try.func39, Try.ntmps39
    go_wp2_with (go_at_call 44; refine HI.out.mono ?_; rintro e w' ⟨rfl, rfl⟩)
    go_ret
    rw [e3]
    refine ⟨by simp, 0, ?_⟩
    simp only [Array.length_toList, Nat.sub_self, List.replicate_zero, List.append_nil, Array.toArray_toList]
    exact (putRow_self (Value.int .i64) (Sort.ahead w' 0) g off d (holds_ahead (Value.int .i64) w' 0 g off d HH.out)).symm
  · have hk0' : k0 < d.size := by simpa using hk0
    rw [e1] at hIF
    have hkeep : ∀ j, j < k0 → kp j = true := fun j hj => by
      rw [HK.out]; show (!(d[j]! == v)) = true
      rw [← tl j (by omega)]
      simp only [Bool.not_eq_true', beq_eq_false_iff_ne]
      exact hall j hj
    have hdrop : kp k0 = false := by rw [HK.out]; show (!(d[k0]! == v)) = false; rw [← tl k0 hk0', ht]; simp
    have hne1 : ((k0 : Int) == -1) = false := beq_eq_false_iff_ne.2 (by omega)
    have HH := hd hH
    have HI := hd hIF
    have HC := hd c0
    clear hH hIF hall ht e1 tl hfil c0
    go_enter Try.func39, Try.ntmps39
    go_wp2_with (go_at_call 44; refine HI.out.mono ?_; rintro e w' ⟨rfl, rfl⟩)
    go_loopg [5, 6, 7] d.size (fun gg s5 s6 _ wr => ∃ (i j q : Nat) (dk : Array Int), s5 = .int .i64 i ∧ s6 = .int .i64 j ∧ j ≤ d.size ∧ d.size - j ≤ gg ∧ wr = putRow (Value.int .i64) (Sort.ahead w' q) g off dk ∧ Hid (KeptInv kp d j i dk))
    case atStart => exact ⟨k0, k0 + 1, 0, d, rfl, by go_num, by omega, by omega, (putRow_self (Value.int .i64) (Sort.ahead w' 0) g off d (holds_ahead (Value.int .i64) w' 0 g off d HH.out)).symm, KeptInv.start hkeep hdrop⟩
    case round =>
      obtain ⟨i, j, q, dk, rfl, rfl, hjd, hgg, hwr, I2⟩ := hrel
      have hI := I2.out
      have hij := hI.lt
      have hds := hI.size
      have hHk : Holds (Value.int .i64) wr g off dk := by rw [hwr]; exact holds_putRow (Value.int .i64) _ g off d dk (holds_ahead (Value.int .i64) w' q g off d HH.out) hds
      have hcp : wr.cell? ⟨p, 0, none⟩ = some (.int .i64 v) := by
        rw [hwr]
        have : g ≠ p := fun e => hp e.symm
        have hc := HC.out
        unfold World.cell? at hc ⊢
        simpa [putRow, mapBlock, Sort.ahead, Array.getElem?_modify, this] using hc
      have W2 : Hid (wr = putRow (Value.int .i64) (Sort.ahead w' q) g off dk) := hwr
      by_cases hlt : j < d.size
      · have hltz : (j : Int) < (d.size : Int) := by omega
        obtain ⟨cj, _⟩ := hHk j (by omega)
        obtain ⟨ci, fi⟩ := hHk i (by omega)
        rw [hI.high j (by omega)] at cj
        have hcall := use1_any d[j]! v p wr hcp
        clear hHk hI hwr hcp
        generalize hu : d[j]! = u at cj hcall
        generalize dk[i]! = old at ci
        have C : Hid (d[j]! = u) := hu
        clear hu
        have HCL := hd hcall
        clear hcall
        by_cases hq : u = v
        · have gq : (u == v) = true := beq_iff_eq.2 hq
          have HQ := hd hq
          clear hq
          go_wp2_with (go_at_call 41; refine HCL.out.mono ?_; rintro e w2 ⟨rfl, rfl⟩; rw [gq])
          go_roundg (d.size - (j + 1))
          case measure => omega
          case rel => exact ⟨i, j + 1, q, dk, rfl, by go_num, by omega, Nat.le_refl _, W2.out, I2.out.skip (by rw [HK.out]; show (!(d[j]! == v)) = false; rw [C.out, gq]; rfl)⟩
        · have gq : (u == v) = false := beq_eq_false_iff_ne.2 hq
          clear hq
          go_wp2_with (go_at_call 41; refine HCL.out.mono ?_; rintro e w2 ⟨rfl, rfl⟩; rw [gq])
          go_roundg (d.size - (j + 1))
          case measure => omega
          case rel =>
            refine ⟨i + 1, j + 1, q, dk.setIfInBounds i u, by go_num, by go_num, by omega, Nat.le_refl _, ?_, (show Hid _ from ?_)⟩
            · rw [W2.out, putRow_set (Value.int .i64) _ g off dk i u (by omega)]
            · have := I2.out.keep hlt (by rw [HK.out]; show (!(d[j]! == v)) = true; rw [C.out, gq]; rfl)
              rwa [C.out] at this
      · obtain rfl : j = d.size := by omega
        have hltz : ¬ (d.size : Int) < (d.size : Int) := by omega
        have hcl : ∀ ty, (Builtin.clear_ #[24] ty #[.slice (some ⟨g, off + i, none⟩) (d.size - i) (cap - i)]).run Try.prog wr = .ok (.tuple #[]) (wr.setCells g (off + i) (List.replicate (d.size - i) (.int .i64 0))) :=
          fun ty => Lib.run_clear_slice wr _ _ ty _ Try.underlying24 (fun w => by kernel_rfl) rfl rfl g (off + i) _ _ (by omega) (fun t ht => by rw [show off + i + t = off + (i + t) by omega, (hHk (i + t) (by omega)).1]; rfl) (fun t ht => by rw [show off + i + t = off + (i + t) by omega]; exact (hHk (i + t) (by omega)).2)
        clear hHk hI hwr hcp
        go_wp2
        go_ret
        have hI := I2.out
        refine ⟨by rw [hI.len]; rfl, q, ?_⟩
        rw [hI.len, ← hI.done 0, ← putRow_setCells (Value.int .i64) _ g off _ dk i (by simp; omega), ← W2.out, List.map_replicate]
/-- The numbers like one struck, in their block. -/
theorem delf_any (B : Nat) (A : Option Addr) (n c : Nat) (xs : List Int) (v : Int) (p : Nat) (w : World) (h : RwI w B A c xs) (hn : n = xs.length) (hpB : p < B) (c0 : w.cell? ⟨p, 0, none⟩ = some (.int .i64 v)) :
    Calls Try.prog 39 #[.slice A n c, .func (.func 41) #[] #[.pointer (some ⟨p, 0, none⟩)]] w fun e w' => e = .returned (.slice A (lv xs v).length c) ∧ RwI w' B A c (lv xs v) ∧ w.grownBy w' (rowOf A xs.length) := by
  subst hn
  have hcap := h.sl.cap
  have hmax := h.sl.max
  by_cases h0 : 0 < xs.length
  · obtain ⟨g, cur, rfl, hb, hg, hH⟩ := h.holds h0
    have H := delf_walk g 0 c v p xs.toArray w (by omega) c0 hH (by simpa using hcap) hmax (lt_of_block hg)
    simp only [List.size_toArray] at H
    refine H.mono ?_
    rintro e w' ⟨rfl, q, rfl⟩
    have hl := lv_len xs v
    have hlen : (lv xs v ++ List.replicate (xs.length - (lv xs v).length) (0 : Int)).length = xs.length := by simp; omega
    have hr := rwI_putRow (B := B) (c := c) (zs := lv xs v ++ List.replicate (xs.length - (lv xs v).length) 0) hg hb hH hlen hcap hmax q
    have hr2 := RwI.take hr (m := (lv xs v).length) (by rw [hlen]; exact hl)
    rw [List.take_left'  rfl] at hr2
    refine ⟨rfl, ?_, ?_⟩
    · exact hr2
    · rw [rowOf_some h0]
      exact putRow_grown w g q _
  · have h1 : xs = [] := List.eq_nil_of_length_eq_zero (by omega)
    subst h1
    have hIF := ixU_any A c [] v p w h.sl c0
    have e1 : ixB [] v = -1 := ixB_none (by simp)
    rw [e1] at hIF
    have HI := hd hIF
    have HR := hd h
    clear hIF h e1
    go_enter Try.func39, Try.ntmps39
    go_wp2_with (go_at_call 44; refine HI.out.mono ?_; rintro e w' ⟨rfl, rfl⟩)
    go_ret
    exact ⟨rfl, HR.out, World.grownBy.refl _ _⟩
theorem lenPut (d : Array Int) (cur : Array Value) : (putCells (Value.int .i64) 0 d cur).size = cur.size := by simp [putCells]
theorem own_holds {w : World} {g n : Nat} {cur : Array Value} {xs : List Int} (hg : w.heap[g]? = some (.cells cur 3 (0, 0))) (hn : n = xs.length) (ht : cur.toList.take (n * 1) = ci xs) : Holds (Value.int .i64) w g 0 xs.toArray := fun j hj => by
  have hj' : j < xs.length := by simpa using hj
  refine ⟨?_, by simp [World.frozen?, hg]⟩
  have h1 : (cur.toList.take (n * 1))[j]? = (ci xs)[j]? := by rw [ht]
  rw [List.getElem?_take, if_pos (by omega)] at h1
  rw [cell_of_row _ _ _ _ _ _ hg, Nat.zero_add, ← Array.getElem?_toList, h1, getElem!_pos xs.toArray j hj]
  simp [ci, hj']
/-- The same, of a row that may grow. -/
theorem delfO_any (B : Nat) (u : Value) (xs : List Int) (v : Int) (p : Nat) (w : World) (h : w.ownsRow B 3 1 u xs.length (ci xs)) (hpB : p < B) (c0 : w.cell? ⟨p, 0, none⟩ = some (.int .i64 v)) :
    Calls Try.prog 39 #[u, .func (.func 41) #[] #[.pointer (some ⟨p, 0, none⟩)]] w fun e w' => ∃ u', e = .returned u' ∧ w'.ownsRow B 3 1 u' (lv xs v).length (ci (lv xs v)) ∧ w.grownBy w' u.ownBlock := by
  have hl := lv_len xs v
  rcases h.2 with ⟨rfl, hx⟩ | ⟨g, cap, cur, rfl, hb, hg, hnc, hcm, hsz, htk⟩
  · have h1 : xs = [] := List.eq_nil_of_length_eq_zero hx
    subst h1
    refine (delf_any B none 0 0 [] v p w (rwI_nil _ _ _ _ (by decide)) rfl hpB c0).mono ?_
    rintro e w' ⟨rfl, -, hg⟩
    exact ⟨_, rfl, ⟨rfl, .inl ⟨rfl, rfl⟩⟩, hg⟩
  · have hH := own_holds hg rfl htk
    have H := delf_walk g 0 cap v p xs.toArray w (by omega) c0 hH (by simpa using hnc) hcm (lt_of_block hg)
    simp only [List.size_toArray] at H
    refine H.mono ?_
    rintro e w' ⟨rfl, q, rfl⟩
    have hlen : (lv xs v ++ List.replicate (xs.length - (lv xs v).length) (0 : Int)).length = xs.length := by simp; omega
    have hr := rwI_putRow (B := B) (c := cap) (zs := lv xs v ++ List.replicate (xs.length - (lv xs v).length) 0) hg hb hH hlen hnc hcm q
    have hr2 := RwI.take hr (m := (lv xs v).length) (by rw [hlen]; exact hl)
    rw [List.take_left' rfl] at hr2
    have hgb := putRow_block hg q (lv xs v ++ List.replicate (xs.length - (lv xs v).length) (0 : Int)).toArray
    refine ⟨_, rfl, ⟨by simp [ci], .inr ⟨g, cap, _, rfl, hb, hgb, by show (lv xs v).length ≤ cap; omega, hcm, by rw [lenPut]; exact hsz, ?_⟩⟩, putRow_grown w g q _⟩
    apply List.ext_getElem?
    intro i
    rw [List.getElem?_take]
    by_cases hi : i < (lv xs v).length
    · have h1 := SlI.at1 hr2.1 hi
      have e0 : (⟨g, 0, none⟩ : Addr).add i = ⟨g, i, none⟩ := by unfold Addr.add; split <;> simp_all
      rw [e0, cell_of_row _ _ _ _ _ _ hgb, ← Array.getElem?_toList] at h1
      rw [if_pos (by omega), h1]
      simp [ci, hi]
    · rw [if_neg (by omega), List.getElem?_eq_none (by rw [ci_length]; omega)]
set_option maxHeartbeats 400000 in
theorem cloneO_any (A : Option Addr) (c : Nat) (xs : List Int) (w : World) (h : SlI w A c xs) (hl : xs.length ≤ 1048576) :
    Calls Try.prog 40 #[.slice A xs.length c] w (OwnI xs w) := by
  have hn := fun (W : World) (n : Nat) => Lib.run_eql_slice_nil (P := Try.prog) W 24 3 A n c 0 0 Try.underlying24
  cases A with
  | none =>
    have h0 : xs = [] := by
      rcases Nat.eq_zero_or_pos xs.length with h0 | h0
      · exact List.eq_nil_of_length_eq_zero h0
      · obtain ⟨ad, e, _⟩ := Sl.addr h h0
        cases e
    subst h0
    go_enter Try.func40, Try.ntmps40
    go_wp2
    go_ret
    exact ⟨_, rfl, ⟨rfl, .inl ⟨rfl, rfl⟩⟩, Below.refl _ _⟩
  | some ad =>
    have ho := hd (own_made w 3 1 [] 0 rfl (by decide))
    have hs := hd (Sl.alloc h (.cells #[] 3))
    go_enter Try.func40, Try.ntmps40
    go_wp2_with (at_builtin; refine wpList_apps eltI _ _ ho.out hs.out (ci_one _) (by omega) (by omega) (by simp) (by rfl) (by rfl) (by rfl) (by rfl) ?_; intro v' w2 hown2 hg2)
    go_ret
    have e1 : (0 : Nat) + xs.length = xs.length := by omega
    rw [e1, List.nil_append] at hown2
    exact ⟨v', rfl, hown2, (ext_alloc (Below.refl _ _) _).grown hg2 (by simp) (by intro k hk; simp [Value.ownBlock] at hk; omega)⟩
end Go.Proofs.Ytmenknnncjbbpaa
