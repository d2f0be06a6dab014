/- FnExactIsValidObservation answers true at every input. Conditions: none. -/
import Derived.Test.YtilbmpdeginabaaCtObs
import Derived.Test.YtilbmpdeginabaaRowIsValidObservation
namespace Go.Proofs.YtilbmpdeginabaaFw
open Go

theorem obs_in {v : AV} (h : elHas true [.int .i64, .int .i64, .int .i64] v) : ∃ x y w, v = obsV x y w := by
  obtain ⟨cs, rfl, hc⟩ := arg_agg h
  simp only [hasL, CT.has] at hc
  obtain ⟨_, _, rfl, ⟨x, rfl, _⟩, _, _, rfl, ⟨y, rfl, _⟩, _, _, rfl, ⟨w, rfl, _⟩, rfl⟩ := hc
  exact ⟨x, y, w, rfl⟩

theorem law_IsValidObservation : Ytilbmpdeginabaa.fnExactIsValidObservation.Law := by
  intro xs h
  obtain ⟨v, rfl, hv⟩ := args1 h
  obtain ⟨x, y, w, rfl⟩ := obs_in hv
  show ∃ n', L.call i_laws_FnExactIsValidObservation [obsV x y w] 1 = some (.bool true, n')
  rw [call_laws_FnExactIsValidObservation]
  have h0 : (obsV x y w).stor = true ∧ (obsV x y w).cells.length ≠ 0 := ⟨rfl, by simp [obsV, AV.cells]⟩
  have g0 : ∀ m, aLoad true 3 { ((st0 1).new 3 [obsV x y w]) with n := m } (.ptr (st0 1).m (st0 1).n 0 0) = some (obsV x y w) := by
    intro m
    simp [nbeq, St.new, St.get, st0, aLoad, ldCells, obsV, AV.cells]
  have g1 := g0 2
  have e1 : { (st0 1).new 3 [obsV x y w] with n := 2 } = (st0 1).new 3 [obsV x y w] := rfl
  rw [e1] at g1
  rw [if_pos h0]
  simp only [show (obsV x y w).cells.length = 3 from rfl, g1, bind_some']
  rw [call_plain (plain1 (obs_plain _ _ _)) (toObs x y w _), bind_some']
  simp only
  rw [call_plain (plain1 (obs_plain _ _ _)) (IsValidObservation_spec x y w _), bind_some']
  simp only [g0, bind_some']
  rw [call_plain (plain1 (obs_plain _ _ _)) (toObs x y w _), bind_some']
  simp only
  rw [call_plain (plain1 (obs_plain _ _ _)) (IsValidObservation_impl x y w _), bind_some']
  simp only [aBinb_neq, bind_some', cnd_dec, not_true_eq_false, if_false, resTup_bool]
  exact ⟨_, rfl⟩

end Go.Proofs.YtilbmpdeginabaaFw
namespace Go.Proofs.Ytilbmpdeginabaa
theorem FnExactIsValidObservation_holds : Rows.FnExactIsValidObservationSaid := fnExactIsValidObservation.over YtilbmpdeginabaaFw.law_IsValidObservation
end Go.Proofs.Ytilbmpdeginabaa
