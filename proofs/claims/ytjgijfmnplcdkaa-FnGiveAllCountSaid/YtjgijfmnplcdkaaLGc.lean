/- The walk of laws.FnGiveAllCount. -/
import Derived.Test.YtjgijfmnplcdkaaWSv
import Derived.Test.YtjgijfmnplcdkaaWSn
import Derived.Test.YtjgijfmnplcdkaaWGa
import Derived.Test.YtjgijfmnplcdkaaWGs
import Derived.Test.YtjgijfmnplcdkaaDrN
import Derived.Test.YtjgijfmnplcdkaaPGb
namespace Go.Proofs.Ytjgijfmnplcdkaa
open Go.RowKit
set_option maxRecDepth 100000 in
set_option maxHeartbeats 4000000 in
theorem lawGiveAllCount (A : Option Addr) (n c : Nat) (w : World) (h : SlB w A n c) :
    Calls Try.prog 3 #[.slice A n c] w fun e w' => e = .returned (.bool true) ∧ Below w.heap.size w w' := by
  have hmax := h.2.1
  have hcap := h.1
  unfold maxLen at hmax
  by_cases hn : 1048576 < n
  · go_enter Try.func3, Try.ntmps3
    go_wp2
    go_ret
    exact ⟨rfl, Below.refl _ _⟩
  · go_enter Try.func3, Try.ntmps3
    go_wp2_with fail
    refine (drawGiveAll_any A n c w h).mono ?_
    rintro e w1 ⟨t, P, p, xs, Q, q, ys, E, f, asks, rfl, t0, t1, sP, sQ, l1, l2, sE, lE, hb, -, -, -⟩
    clear h
    go_upto_region 4 with fail
    obtain ⟨X1, hX⟩ : ∃ W, W = w1.alloc (.cells #[.int .i64 t, .slice P xs.length p, .slice Q ys.length q] 25) := ⟨_, rfl⟩
    rw [← hX]
    have S : Hs X1 w1.heap.size t P p xs Q q ys := by rw [hX]; exact hs_new w1 sP sQ
    have hx : Below w1.heap.size w1 X1 := by rw [hX]; exact ext_alloc (Below.refl _ _) _
    clear hX
    replace sE := sE.ext hx; replace hb := ext_trans hb hx; clear hx
    clear sP sQ
    obtain ⟨us, hus⟩ : ∃ us, us = GALL t xs ys asks := ⟨_, rfl⟩
    have HU := hd hus
    have G1 : Hid (∀ W A B C a b c, SlI W A a xs → SlI W B b ys → SlI W C c asks → Calls Try.prog 7 #[.agg #[.int .i64 t, .slice A xs.length a, .slice B ys.length b], .slice C asks.length c] W (NewI us W)) := hd (fun W A B C a b c s s' sa => by have := ga_any t A a xs B b ys C c asks W s s' sa; rwa [← hus] at this)
    have G2 : Hid (∀ W A B C a b c, SlI W A a xs → SlI W B b ys → SlI W C c asks → Calls Try.prog 9 #[.agg #[.int .i64 t, .slice A xs.length a, .slice B ys.length b], .slice C asks.length c] W (NewI us W)) := hd (fun W A B C a b c s s' sa => by have := sga_any t A a xs B b ys C c asks W s s' sa; rwa [← hus] at this)
    have EQ : Hid (∀ W A a B b, SlI W A a us → SlI W B b us → Calls Try.prog 8 #[.slice A us.length a, .slice B us.length b] W (fun e w' => e = .returned (.bool true) ∧ Below W.heap.size W w')) := hd (fun W A a B b s s' => by have := equalInts_any A B a b us us W s s'; rwa [sameI_self] at this)
    clear hus
    have S_0 := S.bx.c0; have S_1 := S.bx.c1; have S_2 := S.bx.c2
    go_wp2_with fail
    refine (G1.out _ _ _ _ _ _ _ S.sx S.sy sE).mono ?_
    rintro e w2 ⟨oA, oc, rfl, ro, hx⟩
    clear S_0 S_1 S_2
    have so := ro.sl; clear ro
    replace sE := sE.ext hx; replace S := S.ext hx; replace hb := ext_trans hb hx; clear hx
    have S_0 := S.bx.c0; have S_1 := S.bx.c1; have S_2 := S.bx.c2
    go_wp2_with fail
    refine (G2.out _ _ _ _ _ _ _ S.sx S.sy sE).mono ?_
    rintro e w3 ⟨kA, kc, rfl, rk, hx⟩
    clear S_0 S_1 S_2
    have sk := rk.sl; clear rk
    replace sE := sE.ext hx; replace S := S.ext hx; replace so := so.ext hx; replace hb := ext_trans hb hx; clear hx
    have S_0 := S.bx.c0; have S_1 := S.bx.c1; have S_2 := S.bx.c2
    go_wp2_with fail
    refine (EQ.out _ _ _ _ _ so sk).mono ?_
    rintro e w4 ⟨rfl, hx⟩
    clear S_0 S_1 S_2
    replace sE := sE.ext hx; replace S := S.ext hx; replace so := so.ext hx; replace sk := sk.ext hx; replace hb := ext_trans hb hx; clear hx
    cases hv : VSh t xs ys with
    | false =>
      have V1 : Hid (∀ W A B c d, SlI W A c xs → SlI W B d ys → Calls Try.prog 10 #[.agg #[.int .i64 t, .slice A xs.length c, .slice B ys.length d]] W (fun e w' => e = .returned (.bool false) ∧ Below W.heap.size W w')) := hd (fun W A B c d s s' => by have := vsh_any t A c xs B d ys W s s'; rwa [hv] at this)
      clear hv
      have S_0 := S.bx.c0; have S_1 := S.bx.c1; have S_2 := S.bx.c2
      go_wp2_with fail
      refine (V1.out _ _ _ _ _ S.sx S.sy).mono ?_
      rintro e w5 ⟨rfl, hx⟩
      clear S_0 S_1 S_2
      replace sE := sE.ext hx; replace S := S.ext hx; replace so := so.ext hx; replace sk := sk.ext hx; replace hb := ext_trans hb hx; clear hx
      have S_0 := S.bx.c0; have S_1 := S.bx.c1; have S_2 := S.bx.c2
      go_wp2_with fail
      refine (G2.out _ _ _ _ _ _ _ S.sx S.sy sE).mono ?_
      rintro e w6 ⟨qA, qc, rfl, rq, hx⟩
      clear S_0 S_1 S_2
      have sq := rq.sl; clear rq
      replace sE := sE.ext hx; replace S := S.ext hx; replace so := so.ext hx; replace sk := sk.ext hx; replace hb := ext_trans hb hx; clear hx
      have S_0 := S.bx.c0; have S_1 := S.bx.c1; have S_2 := S.bx.c2
      go_wp2_with fail
      refine (EQ.out _ _ _ _ _ so sq).mono ?_
      rintro e w7 ⟨rfl, hx⟩
      clear S_0 S_1 S_2
      replace sE := sE.ext hx; replace S := S.ext hx; replace so := so.ext hx; replace sk := sk.ext hx; replace sq := sq.ext hx; replace hb := ext_trans hb hx; clear hx
      have FIN := hd hb
      clear hb
      go_wp2
      go_ret
      exact ⟨rfl, FIN.out⟩
    | true =>
      have V1 : Hid (∀ W A B c d, SlI W A c xs → SlI W B d ys → Calls Try.prog 10 #[.agg #[.int .i64 t, .slice A xs.length c, .slice B ys.length d]] W (fun e w' => e = .returned (.bool true) ∧ Below W.heap.size W w')) := hd (fun W A B c d s s' => by have := vsh_any t A c xs B d ys W s s'; rwa [hv] at this)
      obtain ⟨lY, -, -⟩ := valid_len hv
      have HVV := hd (valid_sums hv)
      have hsum := GALL_sum asks hv
      rw [← HU.out] at hsum
      have hV := valid_iff.1 hv
      have ht1 := hV.t1
      have hsm0 : 0 ≤ ys.sum := by have a0 := hV.my 0 (by omega); have a1 := hV.my 1 (by omega); have a2 := hV.my 2 (by omega); have a3 := hV.my 3 (by omega); have a4 := hV.my 4 (by omega); rw [sum5 hV.ly]; omega
      clear hV
      have HCN := hd (fun o : Int => (show us.count o ≤ asks.count o by rw [HU.out]; exact GALL_count t xs ys asks o))
      obtain ⟨sm, hsm⟩ : ∃ sm, sm = ys.sum := ⟨_, rfl⟩
      have SM := hd (fun W A c (s : SlI W A c ys) => by have := lsum_q A c ys W s lY HVV.out; rwa [← hsm] at this)
      rw [← hsm] at hsum hsm0
      have hws : IntKind.i64.wrap (t - sm) = t - sm := by rw [IntKind.wrap_i64]; omega
      have gl : decide ((us.length : Int) ≤ t - sm) = true := decide_eq_true (by omega)
      have hul : us.length ≤ 100 := by omega
      clear hsm hv hsum hsm0
      have S_0 := S.bx.c0; have S_1 := S.bx.c1; have S_2 := S.bx.c2
      go_wp2_with fail
      refine (V1.out _ _ _ _ _ S.sx S.sy).mono ?_
      rintro e w5 ⟨rfl, hx⟩
      clear S_0 S_1 S_2
      replace sE := sE.ext hx; replace S := S.ext hx; replace so := so.ext hx; replace sk := sk.ext hx; replace hb := ext_trans hb hx; clear hx
      clear V1 G1 G2 EQ sk
      go_wp2_with fail
      go_loop [6, 7, 8, 9] (fun o _ _ _ => ∃ k : Nat, k ≤ 5 ∧ o = .int .i64 k) (fun o _ _ _ => 5 - (intOf o).toNat)
      case atStart => exact ⟨0, by omega, rfl⟩
      case round =>
        obtain ⟨k, hk, rfl⟩ := hrel
        by_cases hlt : k < 5
        · go_wp2_with fail
          go_loop [7, 8] (fun n i => ∃ (j : Nat) (c : Int), j ≤ us.length ∧ i = .int .i64 j ∧ n = .int .i64 c ∧ Hid (c = ((us.take j).count (k : Int) : Nat)) ∧ 0 ≤ c ∧ c ≤ (j : Int)) (fun _ i => us.length - (intOf i).toNat)
          case atStart => exact ⟨0, 0, Nat.zero_le _, rfl, rfl, hd (by simp), by omega, by omega⟩
          case round =>
            obtain ⟨j, c, hj, rfl, rfl, HC, hc0, hc1⟩ := hrel
            by_cases hlj : j < us.length
            · obtain ⟨ad, rfl, -, -⟩ := SlI.at so hlj
              have a0 := SlI.atN so hlj
              by_cases e : at0 us j = (k : Int)
              · have ge : (at0 us j == (k : Int)) = true := beq_iff_eq.2 e
                have hw : IntKind.i64.wrap (c + 1) = c + 1 := by rw [IntKind.wrap_i64]; omega
                have HC2 : Hid (c + 1 = ((us.take (j + 1)).count (k : Int) : Nat)) := hd (by rw [count_take hlj, if_pos e, HC.out]; omega)
                clear e
                go_wp2
                go_round
                case rel => exact ⟨j + 1, c + 1, by omega, by go_num, rfl, HC2, by omega, by omega⟩
                case measure => simp [intOf]; omega
              · have ge : (at0 us j == (k : Int)) = false := beq_eq_false_iff_ne.2 e
                have HC2 : Hid (c = ((us.take (j + 1)).count (k : Int) : Nat)) := hd (by rw [count_take hlj, if_neg e, HC.out]; omega)
                clear e
                go_wp2
                go_round
                case rel => exact ⟨j + 1, c, by omega, by go_num, rfl, HC2, by omega, by omega⟩
                case measure => simp [intOf]; omega
            · obtain rfl : j = us.length := by omega
              have HC3 : Hid (c = (us.count (k : Int) : Nat)) := hd (by rw [HC.out, List.take_length])
              clear HC
              go_wp2_with fail
              go_loop [7, 9] (fun n i => ∃ (j : Nat) (d : Int), j ≤ asks.length ∧ i = .int .i64 j ∧ n = .int .i64 d ∧ Hid (d = c - ((asks.take j).count (k : Int) : Nat)) ∧ -(j : Int) ≤ d ∧ d ≤ c) (fun _ i => asks.length - (intOf i).toNat)
              case atStart => exact ⟨0, c, Nat.zero_le _, rfl, rfl, hd (by simp), by omega, by omega⟩
              case round =>
                obtain ⟨j, d, hj, rfl, rfl, HD, hd0, hd1⟩ := hrel
                by_cases hlj : j < asks.length
                · obtain ⟨ad, rfl, -, -⟩ := SlI.at sE hlj
                  have a0 := SlI.atN sE hlj
                  by_cases e : at0 asks j = (k : Int)
                  · have ge : (at0 asks j == (k : Int)) = true := beq_iff_eq.2 e
                    have hw : IntKind.i64.wrap (d - 1) = d - 1 := by rw [IntKind.wrap_i64]; omega
                    have HD2 : Hid (d - 1 = c - ((asks.take (j + 1)).count (k : Int) : Nat)) := hd (by rw [count_take hlj, if_pos e, HD.out]; omega)
                    clear e
                    go_wp2
                    go_round
                    case rel => exact ⟨j + 1, d - 1, by omega, by go_num, rfl, HD2, by omega, by omega⟩
                    case measure => simp [intOf]; omega
                  · have ge : (at0 asks j == (k : Int)) = false := beq_eq_false_iff_ne.2 e
                    have HD2 : Hid (d = c - ((asks.take (j + 1)).count (k : Int) : Nat)) := hd (by rw [count_take hlj, if_neg e, HD.out]; omega)
                    clear e
                    go_wp2
                    go_round
                    case rel => exact ⟨j + 1, d, by omega, by go_num, rfl, HD2, by omega, by omega⟩
                    case measure => simp [intOf]; omega
                · obtain rfl : j = asks.length := by omega
                  have gd : decide (0 < d) = false := decide_eq_false (by have h1 := HD.out; have h2 := HC3.out; have h3 := HCN.out (k : Int); rw [List.take_length] at h1; omega)
                  go_wp2
                  go_round
                  case rel => exact ⟨k + 1, by omega, by go_num⟩
                  case measure => simp [intOf]; omega
        · obtain rfl : k = 5 := by omega
          have S_0 := S.bx.c0; have S_1 := S.bx.c1; have S_2 := S.bx.c2
          have sY := S.sy
          have HB := hd hb
          clear S hb
          go_wp2_with fail
          go_quiet ((go_at_call 11; exact Calls.quiet_of_same (SM.out _ _ _ sY)))
          go_wp2
          go_ret
          exact ⟨rfl, below_drewN HB.out _⟩
end Go.Proofs.Ytjgijfmnplcdkaa
