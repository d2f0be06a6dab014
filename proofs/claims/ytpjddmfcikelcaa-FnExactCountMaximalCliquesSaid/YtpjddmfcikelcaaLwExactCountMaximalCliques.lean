/- The law FnExactCountMaximalCliques answers true at every input. Conditions: those of each theorem. -/
import Derived.Test.YtpjddmfcikelcaaCts
import Derived.Test.YtpjddmfcikelcaaRowExactCountMaximalCliques
set_option linter.unusedSimpArgs false
set_option linter.unusedVariables false
namespace Go.Proofs.YtpjddmfcikelcaaFw
open Go

theorem law_FnExactCountMaximalCliques : ∀ xs, hasArgs [(false, [.sl false [.sl false [.bool]]])] xs → ∃ n', L.call i_laws_FnExactCountMaximalCliques xs 1 = some (.bool true, n') := by
  intro xs h
  obtain ⟨v0, rfl, e0⟩ := args1 h
  obtain ⟨x0, h0, b0⟩ := in_BoolSS e0
  suffices hs : Ok (L.call i_laws_FnExactCountMaximalCliques [v0] 1) fun p => p.1 = .bool true by
    obtain ⟨⟨r, n'⟩, e, hr⟩ := hs
    exact ⟨n', by rw [← show r = .bool true from hr]; exact e⟩
  have z0 : (st0 0).m = 0 := rfl
  rw [call_laws_FnExactCountMaximalCliques, show st0 1 = (st0 0).setN 1 from rfl]
  generalize hE0 : st0 0 = E0 at *
  refine Ok.callP (plain2 (t_pl_BoolSS h0) (plain_int _ _)) (t_sz_BoolSS h0 b0 (by omega) (by omega) 1) fun r1 n1 p1 => ?_
  obtain ⟨l101, z1, q1, y1, f1⟩ := p1; dsimp only at l101 q1 ⊢; subst q1
  simp only [aBin_lss, bind_some']
  refine Ok.cnd (fun _ => ⟨_, rfl, rfl⟩) fun g1 => ?_
  have s0 := f1 (by omega)
  refine Ok.callP (plain1 (t_pl_BoolSS h0)) (t_to_BoolSS h0 s0 n1) fun r2 n2 p2 => ?_
  obtain ⟨l102, h102, _⟩ := p2; dsimp only at l102 h102 ⊢
  refine Ok.callP (plain1 (t_pl_BoolSS h102)) (CountMaximalCliques_spec_ok h102 s0 n2) fun r3 n3 p3 => ?_
  obtain ⟨l103, h103⟩ := p3; dsimp only at l103 h103 ⊢; cases h103
  refine Ok.callP (plain1 (t_pl_BoolSS h0)) (t_to_BoolSS h0 s0 n3) fun r4 n4 p4 => ?_
  obtain ⟨l104, h104, _⟩ := p4; dsimp only at l104 h104 ⊢
  refine Ok.callP (plain1 (t_pl_BoolSS h104)) (CountMaximalCliques_impl_ok h104 s0 n4) fun r5 n5 p5 => ?_
  obtain ⟨l105, h105⟩ := p5; dsimp only at l105 h105 ⊢; cases h105
  simp only [aBin_neq, bind_some', not_true_eq_false, decide_false]
  refine Ok.cndb (fun hf => Bool.noConfusion hf) fun _ => ?_
  refine Ok.callP (plain1 (t_pl_BoolSS h0)) (t_to_BoolSS h0 s0 n5) fun r6 n6 p6 => ?_
  obtain ⟨l106, h106, _⟩ := p6; dsimp only at l106 h106 ⊢
  refine Ok.callS (mapO2 (res_plain (t_pl_BoolSS h104)) (res_plain (t_pl_BoolSS h106))) (t_eq_BoolSS h104 h106 s0 n6) scal_b fun r7 n7 p7 => ?_
  obtain ⟨l107, q7⟩ := p7; dsimp only at l107 q7 ⊢; subst q7
  rw [decide_eq_true (rfl : x0 = x0)]
  simp only [aUn_not, bind_some', Bool.not_true]
  refine Ok.cndb (fun hf => Bool.noConfusion hf) fun _ => ?_
  exact ⟨_, rfl, rfl⟩

end Go.Proofs.YtpjddmfcikelcaaFw
namespace Go.Proofs.Ytpjddmfcikelcaa
theorem FnExactCountMaximalCliques_holds : Rows.FnExactCountMaximalCliquesSaid := fnExactCountMaximalCliques.over YtpjddmfcikelcaaFw.law_FnExactCountMaximalCliques
end Go.Proofs.Ytpjddmfcikelcaa
