/- The law FnExactIsClique answers true at every input. Conditions: those of each theorem. -/
import Derived.Test.YtilbmpdeginabaaCt
import Derived.Test.YtilbmpdeginabaaRowExactIsClique
namespace Go.Proofs.YtilbmpdeginabaaFw
open Go

theorem law_FnExactIsClique : Ytilbmpdeginabaa.fnExactIsClique.Law := by
  intro xs h
  obtain ⟨v, u, rfl, hv, hu⟩ := args2 h
  obtain ⟨g, h0, hl, hr⟩ := bss_in (arg_one hv)
  obtain ⟨l, h1, hl1, _⟩ := is_in (arg_one hu)
  have hl1' : l.length ≤ 9223372036854775807 := hl1
  show ∃ n', L.call i_laws_FnExactIsClique [v, u] 1 = some (.bool true, n')
  rw [call_laws_FnExactIsClique, SlOf.len h1]
  simp only [bind_some', aBin_gtr, cnd_dec]
  by_cases hb : (1048576 : Int) < l.length
  · rw [if_pos hb]; exact ⟨_, rfl⟩
  rw [if_neg hb]
  obtain ⟨z, s1, s2⟩ := szBoolSS_call h0 hl hr (left := 1048576) (by omega) (by omega) (st0 1).n
  rw [call_same (plain2 h0.plain (plain_int _ _)) s1]
  simp only [bind_some', aBin_lss, cnd_dec]
  by_cases hz : z < 0
  · rw [if_pos hz]; exact ⟨_, rfl⟩
  · rw [if_neg hz]
    obtain ⟨k1, k2⟩ := s2 (by omega)
    have hg' : g.length ≤ 1048576 := by omega
    have hr' : ∀ r ∈ g, r.length ≤ 1048576 := fun r hm => by have := k2 r hm; omega
    have hll : l.length ≤ 1048576 := by omega
    obtain ⟨a, n1, a1, a2, a3⟩ := toBoolSS_call h0 hg' hr' (st0 1).n
    rw [call_plain (plain1 h0.plain) a1, bind_some']
    simp only
    obtain ⟨b, n2, b1, b2, b3⟩ := toIntS_call h1 (by omega) n1
    rw [call_plain (plain1 h1.plain) b1, bind_some']
    simp only
    rw [call_same (plain2 a2.plain b2.plain) (IsClique_spec_call a2 b2 hg' hr' hll _), bind_some']
    simp only
    obtain ⟨c, n3, c1, c2, c3⟩ := toBoolSS_call h0 hg' hr' n2
    rw [call_plain (plain1 h0.plain) c1, bind_some']
    simp only
    obtain ⟨d, n4, d1, d2, d3⟩ := toIntS_call h1 (by omega) n3
    rw [call_plain (plain1 h1.plain) d1, bind_some']
    simp only
    rw [call_same (plain2 c2.plain d2.plain) (IsClique_impl_call c2 d2 hg' hr' hll _), bind_some']
    simp only [aBinb_neq, bind_some', cnd_dec, not_true_eq_false, if_false]
    obtain ⟨e, n5, e1, e2, e3⟩ := toBoolSS_call h0 hg' hr' n4
    rw [call_plain (plain1 h0.plain) e1, bind_some']
    simp only
    rw [call_same (plain2 c2.plain e2.plain) (eqBoolSS_call c2 e2 (by omega) (fun r hm => by have := hr' r hm; omega) _), bind_some']
    simp only [aUn_not, bind_some', cnd_ndec, if_true]
    obtain ⟨f, n6, f1, f2, f3⟩ := toIntS_call h1 (by omega) n5
    rw [call_plain (plain1 h1.plain) f1, bind_some']
    simp only
    rw [call_same (plain2 d2.plain f2.plain) (eqIntS_call d2 f2 (by omega) _), bind_some']
    simp only [aUn_not, bind_some', cnd_ndec, if_true, resTup_bool]
    exact ⟨_, rfl⟩

end Go.Proofs.YtilbmpdeginabaaFw
namespace Go.Proofs.Ytilbmpdeginabaa
theorem FnExactIsClique_holds : Rows.FnExactIsCliqueSaid := fnExactIsClique.over YtilbmpdeginabaaFw.law_FnExactIsClique
end Go.Proofs.Ytilbmpdeginabaa
