/- FnExactIsGraph answers true at every input. Conditions: none. -/
import Derived.Test.YtilbmpdeginabaaCtG
import Derived.Test.YtilbmpdeginabaaRowIsGraph
namespace Go.Proofs.YtilbmpdeginabaaFw
open Go

theorem bss_in {v : AV} (h : CT.has (.sl false [.sl false [.bool]]) v) : ∃ l, BSS v l ∧ l.length ≤ maxLen ∧ ∀ r ∈ l, r.length ≤ maxLen :=
  has_sl h fun _ hx => by
    obtain ⟨l, h1, h2, _⟩ := has_sl (R := RB) (P := fun _ => True) hx fun y hy => by
      simp only [CT.has] at hy
      obtain ⟨b, rfl⟩ := hy
      exact ⟨b, rfl, trivial⟩
    exact ⟨l, h1, h2⟩

theorem law_IsGraph : Ytilbmpdeginabaa.fnExactIsGraph.Law := by
  intro xs h
  obtain ⟨v, rfl, hv⟩ := args1 h
  obtain ⟨l, h0, hl, hr⟩ := bss_in (arg_one hv)
  show ∃ n', L.call i_laws_FnExactIsGraph [v] 1 = some (.bool true, n')
  rw [call_laws_FnExactIsGraph]
  obtain ⟨z, s1, s2⟩ := szBoolSS_call h0 hl hr (left := 1048576) (by omega) (by omega) (st0 1).n
  rw [call_same (plain2 h0.plain (plain_int _ _)) s1]
  simp only [bind_some', aBin_lss, cnd_dec]
  by_cases hz : z < 0
  · rw [if_pos hz]; exact ⟨_, rfl⟩
  · rw [if_neg hz]
    obtain ⟨k1, k2⟩ := s2 (by omega)
    have hl' : l.length ≤ 1048576 := by omega
    have hr' : ∀ r ∈ l, r.length ≤ 1048576 := fun r hm => by have := k2 r hm; omega
    obtain ⟨a, n1, a1, a2, a3⟩ := toBoolSS_call h0 hl' hr' (st0 1).n
    rw [call_plain (plain1 h0.plain) a1, bind_some']
    simp only
    rw [call_same (plain1 a2.plain) (IsGraph_spec_call a2 hl' hr' _), bind_some']
    simp only
    obtain ⟨b, n2, b1, b2, b3⟩ := toBoolSS_call h0 hl' hr' n1
    rw [call_plain (plain1 h0.plain) b1, bind_some']
    simp only
    rw [call_same (plain1 b2.plain) (IsGraph_impl_call b2 hl' hr' _), bind_some']
    simp only [aBinb_neq, bind_some', cnd_dec, not_true_eq_false, if_false]
    obtain ⟨c, n3, c1, c2, c3⟩ := toBoolSS_call h0 hl' hr' n2
    rw [call_plain (plain1 h0.plain) c1, bind_some']
    simp only
    rw [call_same (plain2 b2.plain c2.plain) (eqBoolSS_call b2 c2 (by omega) (fun r hm => by have := hr' r hm; omega) _), bind_some']
    simp only [aUn_not, bind_some', cnd_ndec, if_true, resTup_bool]
    exact ⟨_, rfl⟩

end Go.Proofs.YtilbmpdeginabaaFw
namespace Go.Proofs.Ytilbmpdeginabaa
theorem FnExactIsGraph_holds : Rows.FnExactIsGraphSaid := fnExactIsGraph.over YtilbmpdeginabaaFw.law_IsGraph
end Go.Proofs.Ytilbmpdeginabaa
