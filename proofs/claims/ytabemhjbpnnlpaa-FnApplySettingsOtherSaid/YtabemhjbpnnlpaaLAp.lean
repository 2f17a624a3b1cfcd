/- The walks of laws.FnApplySettingsNone, laws.FnApplySettingsParts, laws.FnApplySettings. -/
import Derived.Test.YtabemhjbpnnlpaaWAi
import Derived.Test.YtabemhjbpnnlpaaWEq
import Derived.Test.YtabemhjbpnnlpaaDrA
import Derived.Test.YtabemhjbpnnlpaaPSet2
import Derived.Test.YtabemhjbpnnlpaaLRp
namespace Go.Proofs.Ytabemhjbpnnlpaa
open Go.RowKit
/-- Changed. -/
def AppY (zs : List St) (w : World) (e : Ending) (w' : World) : Prop := ∃ B d, e = .returned (.tuple #[.slice B zs.length d, .bool true]) ∧ SlS w' B d zs ∧ Below w.heap.size w w'
/-- Not changed. -/
def AppN (w : World) (e : Ending) (w' : World) : Prop := ∃ B d, e = .returned (.tuple #[.slice B 0 d, .bool false]) ∧ SlS w' B d [] ∧ Below w.heap.size w w'
theorem newO_yes {e : TypeId} {o : Option (List St)} {zs : List St} {w w' : World} {r : Ending} (h : NewO e o w r w') (ho : o = some zs) : AppY zs w r w' := by
  subst ho
  obtain ⟨A, c, e1, e2, e3⟩ := h
  exact ⟨A, c, e1, e2.sl, e3⟩
theorem newO_no {e : TypeId} {o : Option (List St)} {w w' : World} {r : Ending} (h : NewO e o w r w') (ho : o = none) : AppN w r w' := by
  subst ho
  obtain ⟨A, c, e1, e2, e3⟩ := h
  exact ⟨A, c, e1, e2.sl, e3⟩
section
variable {A A' : Option Addr} {c c' : Nat} {xs cs zs : List St} {w : World}
theorem app_yes (ho : appS xs cs = some zs) (h : SlS w A c xs) (h' : SlS w A' c' cs) : Calls Try.prog 28 #[.slice A xs.length c, .slice A' cs.length c'] w (AppY zs w) := (applySettings_any A A' c c' xs cs w h h').mono fun _ _ hh => newO_yes hh ho
theorem app_no (ho : appS xs cs = none) (h : SlS w A c xs) (h' : SlS w A' c' cs) : Calls Try.prog 28 #[.slice A xs.length c, .slice A' cs.length c'] w (AppN w) := (applySettings_any A A' c c' xs cs w h h').mono fun _ _ hh => newO_no hh ho
theorem sapp_yes (ho : appS xs cs = some zs) (h : SlS w A c xs) (h' : SlS w A' c' cs) : Calls Try.prog 30 #[.slice A xs.length c, .slice A' cs.length c'] w (AppY zs w) := (sApplySettings_any A A' c c' xs cs w h h').mono fun _ _ hh => newO_yes hh ho
theorem sapp_no (ho : appS xs cs = none) (h : SlS w A c xs) (h' : SlS w A' c' cs) : Calls Try.prog 30 #[.slice A xs.length c, .slice A' cs.length c'] w (AppN w) := (sApplySettings_any A A' c c' xs cs w h h').mono fun _ _ hh => newO_no hh ho
end
set_option maxHeartbeats 1000000 in
theorem lawApplySettingsNone (A : Option Addr) (n c : Nat) (w : World) (h : SlB w A n c) :
    Calls Try.prog 10 #[.slice A n c] w fun e w' => e = .returned (.bool true) ∧ Below w.heap.size w w' := by
  by_cases hn : 1048576 < n
  · go_enter Try.func10, Try.ntmps10
    go_wp2
    go_ret
    exact ⟨rfl, Below.refl _ _⟩
  · go_enter Try.func10, Try.ntmps10
    go_wp2_with fail
    refine (drawApplySettings_any A n c w h).mono ?_
    rintro e w1 ⟨B, B', d, d', xs, cs, rfl, s1, s2, hl1, hl2, hb⟩
    cases ho : appS xs cs with
    | some zs =>
      have HO := hd ho
      have v1 := (appS_some ho).1
      have HE := eqL_self zs
      have HE2 := eqL_self xs
      have HX := hd (appS_none v1)
      clear ho
      go_wp2_with fail
      refine (app_yes HO.out s1 s2).mono ?_
      rintro e w1 ⟨P, p, rfl, r, hx⟩
      replace s1 := s1.ext hx; replace s2 := s2.ext hx; replace hb := ext_trans hb hx; clear hx
      go_wp2_with fail
      refine (sapp_yes HO.out s1 s2).mono ?_
      rintro e w1 ⟨Q, q, rfl, t, hx⟩
      replace r := r.ext hx; replace s1 := s1.ext hx; replace s2 := s2.ext hx; replace hb := ext_trans hb hx; clear hx
      go_wp2_with fail
      refine (equalSettings_any _ _ _ _ _ _ _ r t).mono ?_
      rintro e w1 ⟨rfl, hx⟩
      replace r := r.ext hx; replace s1 := s1.ext hx; replace s2 := s2.ext hx; replace hb := ext_trans hb hx; clear hx
      clear t
      go_wp2_with fail
      refine (vs_any _ _ _ _ s1).mono ?_
      rintro e w1 ⟨rfl, hx⟩
      replace r := r.ext hx; replace s1 := s1.ext hx; replace s2 := s2.ext hx; replace hb := ext_trans hb hx; clear hx
      go_wp2_with fail
      refine (app_yes (cs := []) HX.out s1 (Sl.nil _ 2 none 0 (Nat.zero_le _))).mono ?_
      rintro e w1 ⟨U, u, rfl, t, hx⟩
      replace s1 := s1.ext hx; replace hb := ext_trans hb hx; clear hx
      go_wp2_with fail
      refine (equalSettings_any _ _ _ _ _ _ _ t s1).mono ?_
      rintro e w1 ⟨rfl, hx⟩
      replace hb := ext_trans hb hx; clear hx
      go_wp2
      go_ret
      exact ⟨rfl, hb⟩
    | none =>
      have HO := hd ho
      have HE := eqL_self []
      clear ho
      go_wp2_with fail
      refine (app_no HO.out s1 s2).mono ?_
      rintro e w1 ⟨P, p, rfl, r, hx⟩
      replace s1 := s1.ext hx; replace s2 := s2.ext hx; replace hb := ext_trans hb hx; clear hx
      go_wp2_with fail
      refine (sapp_no HO.out s1 s2).mono ?_
      rintro e w1 ⟨Q, q, rfl, t, hx⟩
      replace r := r.ext hx; replace s1 := s1.ext hx; replace s2 := s2.ext hx; replace hb := ext_trans hb hx; clear hx
      go_wp2_with fail
      refine (equalSettings_any _ _ _ _ [] [] _ r t).mono ?_
      rintro e w1 ⟨rfl, hx⟩
      replace r := r.ext hx; replace t := t.ext hx; replace s1 := s1.ext hx; replace s2 := s2.ext hx; replace hb := ext_trans hb hx; clear hx
      by_cases v1 : VS xs = true
      · have HE2 := eqL_self xs
        have HX := hd (appS_none v1)
        go_wp2_with fail
        refine (vs_any _ _ _ _ s1).mono ?_
        rintro e w1 ⟨rfl, hx⟩
        replace r := r.ext hx; replace s1 := s1.ext hx; replace s2 := s2.ext hx; replace hb := ext_trans hb hx; clear hx
        go_wp2_with fail
        refine (app_yes (cs := []) HX.out s1 (Sl.nil _ 2 none 0 (Nat.zero_le _))).mono ?_
        rintro e w1 ⟨U, u, rfl, t, hx⟩
        replace s1 := s1.ext hx; replace hb := ext_trans hb hx; clear hx
        go_wp2_with fail
        refine (equalSettings_any _ _ _ _ _ _ _ t s1).mono ?_
        rintro e w1 ⟨rfl, hx⟩
        replace hb := ext_trans hb hx; clear hx
        go_wp2
        go_ret
        exact ⟨rfl, hb⟩
      · have v1 : VS xs = false := by simpa using v1
        go_wp2_with fail
        refine (vs_any _ _ _ _ s1).mono ?_
        rintro e w1 ⟨rfl, hx⟩
        replace r := r.ext hx; replace t := t.ext hx; replace hb := ext_trans hb hx; clear hx
        go_wp2_with fail
        refine (equalSettings_any _ _ _ _ [] [] _ r t).mono ?_
        rintro e w1 ⟨rfl, hx⟩
        replace hb := ext_trans hb hx; clear hx
        go_wp2
        go_ret
        exact ⟨rfl, hb⟩
end Go.Proofs.Ytabemhjbpnnlpaa
