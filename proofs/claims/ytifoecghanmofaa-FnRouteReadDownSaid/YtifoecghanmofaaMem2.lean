/- More words for memory: an append of elements just built, at a step of a drawn region. -/
import Derived.Test.YtifoecghanmofaaMem
import Derived.Deep.RegionHeld3
import Derived.Deep.RegionWith
namespace Go.Proofs.Ytifoecghanmofaa
open Go.RowKit
theorem ext_drew {B : Nat} {a w : World} (h : Below B a w) : Below B a w.drew := ⟨h.os, h.tape, h.output, h.size, h.block⟩
theorem sl_made {w : World} {e : TypeId} {k m : Nat} {cs : List Value} (hl : cs.length = m * k) (hm : m ≤ 1099511627776) : Sl (w.alloc (.cells cs.toArray e)) k (some ⟨w.heap.size, 0, none⟩) m m cs := by
  refine ⟨hl, Nat.le_refl _, by unfold maxLen; omega, fun _ => ⟨_, rfl, by simp, fun j u hu => ?_⟩⟩
  have : (⟨w.heap.size, 0, none⟩ : Addr).add j = ⟨w.heap.size, j, none⟩ := by unfold Addr.add; split <;> simp_all
  rw [this, cell_of_row _ _ _ _ _ _ (heap_alloc_new w _)]
  simpa using hu
section
variable {P : Program} {w : World} {t e : TypeId} {z : Value} {size bytes : Nat} {o : Oper} {a : Act}
/-- An append of elements that were just built, at a step of a drawn region. -/
theorem step_app {ops : Array Oper} {K : Act → World → Prop} {Q : Exit → Act → World → Prop} {E : Prop} (hE : Elt P t e z size bytes) (s x : Operand)
    {base n m : Nat} {v : Value} {xs news : List Value} (hown : w.ownsRow base e size v n xs) (hl : news.length = m * size) (h1 : ∀ u ∈ news, u.oneCell' = true)
    (h63 : n + m ≤ 1099511627776) (hb : bytes ≤ 128) (hbase : base ≤ w.heap.size) (hgd : o.guard = none)
    (ho : o.op = .call { callee := .builtin .append, args := #[s, x], argTypes := #[t, t] }) (hv : a.eval s = v) (hx : a.eval x = .slice (some ⟨w.heap.size, 0, none⟩) m m)
    (h : ∀ v' w', w'.ownsRow base e size v' (n + m) (xs ++ news) → w.grownBy w' v.ownBlock → K (a.put o.dst v') w') :
    if Region.wanted o (yielded ops a.tmps) = true then Oper.wp P o a ((w.alloc (.cells news.toArray e)).drew) K Q else E :=
  step_apps (w := (w.alloc (.cells news.toArray e)).drew) hE s x (show World.ownsRow (w.alloc _).drew _ _ _ _ _ _ from hown.alloc _) (show Sl (w.alloc _).drew _ _ _ _ _ from sl_made (w := w) hl (by omega)) h1 h63 hb
    (show base ≤ (w.alloc _).heap.size by simp; omega) hgd ho hv hx
    (fun v' w' h2 h3 => h v' w' h2 (grown_step (World.grownBy_alloc w _ none |> fun g => (⟨g.os, g.tape, g.output, g.size, fun k hk _ => g.block k hk (by simp)⟩ : w.grownBy ((w.alloc (.cells news.toArray e)).drew) v.ownBlock)) h3 (fun k hk => .inl hk)))
end
end Go.Proofs.Ytifoecghanmofaa
