/-
  TARIFFBACK: what is printed is read as the tariff; what is read can be written, and is read again.
-/
import Derived.Test.YtpihabofmnnbbaaDoorPrI
import Derived.Test.YtpihabofmnnbbaaDoorPrB
import Derived.Test.YtpihabofmnnbbaaDoorMirD1
namespace Go.Proofs.YtpihabofmnnbbaaDoor.Pr
open Go Rt M Ta Tp

theorem back_rest (s2 : Rt.Bs) (hs : s2.length ≤ 1000) (v4 : Rt.Bs × Bool) (h4 : v4.2 = true ∨ v4.1 = []) : Ev (fun n =>
    (tariff_Parse n s2).bind fun v9 =>
    bif v9.2.2 != 0 then
     (bif true then
      (bif v4.2 then
       some true
      else
       some (v4.1 == [])).bind fun v15 =>
      some v15
     else
      some false).bind fun v10 =>
     (bif v10 then
      some (decide (0 ≤ v9.2.1))
     else
      some false).bind fun v11 =>
     (bif v11 then
      some (decide (v9.2.1 ≤ (s2.length : Int)))
     else
      some false).bind fun v12 =>
     (bif v12 then
      (ref35_SameTariff n v9.1 (⟨[], (⟨0, 0, [], []⟩ : M.Expr), 0⟩ : Tariff)).bind fun v14 =>
      some v14
     else
      some false).bind fun v13 =>
     some v13
    else
     (tariff_Print n v9.1).bind fun v16 =>
     (tariff_Parse n v16.1).bind fun v17 =>
     (bif true then
      (bif v4.2 then
       some true
      else
       some (v4.1 == [])).bind fun v25 =>
      some v25
     else
      some false).bind fun v18 =>
     (bif v18 then
      some (v9.2.1 == 0)
     else
      some false).bind fun v19 =>
     (bif v19 then
      some v16.2
     else
      some false).bind fun v20 =>
     (bif v20 then
      some (v17.2.2 == 0)
     else
      some false).bind fun v21 =>
     (bif v21 then
      some (v17.2.1 == 0)
     else
      some false).bind fun v22 =>
     (bif v22 then
      (ref35_SameTariff n v9.1 v17.1).bind fun v24 =>
      some v24
     else
      some false).bind fun v23 =>
     some v23) true := by
  have ok : Ev (fun _ => bif v4.2 then some true else some (v4.1 == [])) true := by
    cases h : v4.2 with
    | true => exact Ev.pure _
    | false =>
      rcases h4 with h4 | h4
      · rw [h] at h4; cases h4
      · rw [h4]; exact Ev.pure _
  obtain ⟨r, er, h1, h2⟩ := Parse_w (s := s2) (by omega)
  refine Ev.bind er ?_
  by_cases he : r.2.2 = 0
  · obtain ⟨g1, g2, g3⟩ := h1 he
    refine Ev.else (by rw [he]; rfl) ?_
    obtain ⟨p, ep, hp⟩ := print_ev g3
    have hp : p = (ptx r.1, true) := by
      rcases hp with hp | hp
      · exact hp.2
      · exact absurd g2 hp.1
    subst hp
    refine Ev.bind ep (Ev.bind (parse_ptx g2 g3) ?_)
    exact and_call rfl ok (and_pure rfl (by rw [g1]; rfl) (and_pure rfl rfl (and_pure rfl rfl (and_pure rfl rfl (and_call rfl (SameT_ev g3) (Ev.pure _))))))
  · obtain ⟨g1, g2, g3⟩ := h2 he
    refine Ev.then (by simpa using he) ?_
    rw [g1]
    exact and_call rfl ok (and_pure rfl (decide_eq_true g2) (and_pure rfl (decide_eq_true g3) (and_call rfl (SameT_ev (t := zeroT) (Fit.leaf _ _ _)) (Ev.pure _))))
theorem back_ev (t : Tariff) (s : Rt.Bs) : Ev (fun n => law35_TariffBack n t s) true := by
  unfold law35_TariffBack
  refine Ev.bind small35 ?_
  obtain ⟨v2, e2, h2⟩ := limited_t t
  refine Ev.bind e2 ?_
  cases v2 with
  | false => exact Ev.bind (a := true) (Ev.then rfl (Ev.pure _)) (Ev.then rfl (Ev.pure _))
  | true =>
    have hf := h2 rfl
    refine Ev.bind (a := decide (1000 < (s.length : Int))) (Ev.else rfl (Ev.pure _)) ?_
    by_cases hs : s.length ≤ 1000
    · refine Ev.else (decide_eq_false (by omega)) ?_
      obtain ⟨v4, e4, h4⟩ := print_ev hf
      refine Ev.bind e4 ?_
      rcases h4 with ⟨hw, rfl⟩ | ⟨_, rfl⟩
      · refine Ev.then rfl (Ev.bind (parse_ptx hw hf) ?_)
        refine Ev.bind (a := false) (Ev.else rfl (Ev.pure _)) ?_
        refine Ev.bind (a := false) (Ev.else rfl (Ev.bind (SameT_ev hf) (Ev.pure _))) ?_
        refine Ev.bind (a := false) (Ev.else rfl ?_) (Ev.else rfl (back_rest s hs _ (.inl rfl)))
        have := (ptx_words hw).2
        exact (Ev.pure _).eq (decide_eq_false (by dsimp only; omega))
      · exact Ev.else rfl (back_rest s hs ([], false) (.inr rfl))
    · exact Ev.then (decide_eq_true (by omega)) (Ev.pure _)
end Go.Proofs.YtpihabofmnnbbaaDoor.Pr
