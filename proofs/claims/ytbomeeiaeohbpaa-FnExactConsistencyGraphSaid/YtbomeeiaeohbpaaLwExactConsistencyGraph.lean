/- The law FnExactConsistencyGraph answers true at every input. Conditions: those of each theorem. -/
import Derived.Test.YtbomeeiaeohbpaaCts2
import Derived.Test.YtbomeeiaeohbpaaRowExactConsistencyGraph
set_option linter.unusedSimpArgs false
set_option linter.unusedVariables false
namespace Go.Proofs.YtbomeeiaeohbpaaFw
open Go

theorem law_FnExactConsistencyGraph : ∀ xs, hasArgs [(false, [.sl true [.int .i64, .int .i64, .str, .str, .int .i64, .int .i64, .int .i64, .int .i64]]), (false, [.int .i64])] xs → ∃ n', L.call i_laws_FnExactConsistencyGraph xs 1 = some (.bool true, n') := by
  intro xs h
  obtain ⟨v0, v1, rfl, e0, e1⟩ := args2 h
  obtain ⟨x0, h0, b0⟩ := in_FactorS e0
  obtain ⟨x1, rfl, s1⟩ := in_int e1
  suffices hs : Ok (L.call i_laws_FnExactConsistencyGraph [v0, (.int .i64 x1)] 1) fun p => p.1 = .bool true by
    obtain ⟨⟨r, n'⟩, e, hr⟩ := hs
    exact ⟨n', by rw [← show r = .bool true from hr]; exact e⟩
  have z0 : (st0 0).m = 0 := rfl
  rw [call_laws_FnExactConsistencyGraph, show st0 1 = (st0 0).setN 1 from rfl]
  generalize hE0 : st0 0 = E0 at *
  refine Ok.callP (plain2 (t_pl_FactorS h0) (plain_int _ _)) (t_sz_FactorS h0 b0 (by omega) (by omega) 1) fun r1 n1 p1 => ?_
  obtain ⟨l101, z1, q1, y1, f1⟩ := p1; dsimp only at l101 q1 ⊢; subst q1
  simp only [aBin_lss, bind_some']
  refine Ok.cnd (fun _ => ⟨_, rfl, rfl⟩) fun g1 => ?_
  have s0 := f1 (by omega)
  refine Ok.callP (plain1 (t_pl_FactorS h0)) (t_to_FactorS h0 s0 n1) fun r2 n2 p2 => ?_
  obtain ⟨l102, h102, _⟩ := p2; dsimp only at l102 h102 ⊢
  refine Ok.callP (plain2 (t_pl_FactorS h102) (plain_int _ _)) (ConsistencyGraph_spec_ok h102 s0 (show RI (.int .i64 x1) x1 from rfl) s1 n2) fun r3 n3 p3 => ?_
  obtain ⟨l103, h103⟩ := p3; dsimp only at l103 h103 ⊢
  refine Ok.callT (mapO1 (res_plain (t_pl_FactorS h0))) (t_to_FactorS h0 s0 n3) (fun _ _ p => p.2.2) (Nat.le_refl _) fun r4 n4 v4_ E4 p4 m4 K4 o4 => ?_
  obtain ⟨l104, h104, _⟩ := p4; dsimp only at l104 h104 ⊢
  refine Ok.callT (mapO2 (t_res_FactorS h104 o4) (res_plain (plain_int _ _))) (ConsistencyGraph_impl_ok h104 s0 (show RI (.int .i64 x1) x1 from rfl) s1 n4) (fun _ _ p => p.2.2) (Nat.le_refl _) fun r5 n5 v5_ E5 p5 m5 K5 o5 => ?_
  obtain ⟨l105, h105, _⟩ := p5; dsimp only at l105 h105 ⊢
  have o5_x0 := o4.frame fun j _ hj => K5 j (by omega)
  refine Ok.callS (mapO2 (t_res_BoolSS h105 o5) (res_plain (t_pl_BoolSS h103))) (t_eq_BoolSS h105 h103 (ConsistencyGraph_sm s0 s1) n5) scal_b fun r6 n6 p6 => ?_
  obtain ⟨l106, q6⟩ := p6; dsimp only at l106 q6 ⊢; subst q6
  rw [decide_eq_true (rfl : (ConsistencyGraph_M x0 x1) = (ConsistencyGraph_M x0 x1))]
  simp only [aUn_not, bind_some', Bool.not_true]
  refine Ok.cndb (fun hf => Bool.noConfusion hf) fun _ => ?_
  refine Ok.callP (plain1 (t_pl_FactorS h0)) (t_to_FactorS h0 s0 n6) fun r7 n7 p7 => ?_
  obtain ⟨l107, h107, _⟩ := p7; dsimp only at l107 h107 ⊢
  refine Ok.callS (mapO2 (t_res_FactorS h104 o5_x0) (res_plain (t_pl_FactorS h107))) (t_eq_FactorS h104 h107 s0 n7) scal_b fun r8 n8 p8 => ?_
  obtain ⟨l108, q8⟩ := p8; dsimp only at l108 q8 ⊢; subst q8
  rw [decide_eq_true (rfl : x0 = x0)]
  simp only [aUn_not, bind_some', Bool.not_true]
  refine Ok.cndb (fun hf => Bool.noConfusion hf) fun _ => ?_
  have c9 := cntB_FactorS s0
  refine Ok.inl (t_mark_FactorS (E5.setN n8) _ _ _ _ _ _ o5_x0.setN (by simp only [setN_m]; omega) h104 s0 (by omega) (by omega)) fun v9_ E9 n9 p9 => ?_
  obtain ⟨q9, K9, t9, o9, h109⟩ := p9; dsimp only at q9 K9 o9 h109 ⊢; subst q9; replace o9 := o9.unN
  have m9 := K9.2.1; simp only [setN_m] at m9
  have o9_g0 := (K9.own o5.setN (by simp only [setN_m]; omega) (by omega)).unN
  simp only [aBin_lss, bind_some']
  refine Ok.cnd (fun hf => absurd hf (by omega)) fun _ => ?_
  refine Ok.callS (mapO2 (t_res_BoolSS h105 o9_g0) (res_plain (t_pl_BoolSS h103))) (t_eq_BoolSS h105 h103 (ConsistencyGraph_sm s0 s1) n9) scal_b fun r10 n10 p10 => ?_
  obtain ⟨l110, q10⟩ := p10; dsimp only at l110 q10 ⊢; subst q10
  rw [decide_eq_true (rfl : (ConsistencyGraph_M x0 x1) = (ConsistencyGraph_M x0 x1))]
  simp only [aUn_not, bind_some', Bool.not_true]
  refine Ok.cndb (fun hf => Bool.noConfusion hf) fun _ => ?_
  have c11 := cntB_BoolSS (ConsistencyGraph_sm s0 s1)
  refine Ok.inl (t_mark_BoolSS (E9.setN n10) _ _ _ _ _ _ o9_g0.setN (by simp only [setN_m]; omega) h105 (ConsistencyGraph_sm s0 s1) (by omega) (by omega)) fun v11_ E11 n11 p11 => ?_
  obtain ⟨q11, K11, t11, o11, h111⟩ := p11; dsimp only at q11 K11 o11 h111 ⊢; subst q11; replace o11 := o11.unN
  have m11 := K11.2.1; simp only [setN_m] at m11
  have o11_x0 := (K11.own o9.setN (by simp only [setN_m]; omega) (by omega)).unN
  refine Ok.callS (mapO2 (t_res_BoolSS h111 o11) rfl) (t_held_BoolSS _ _ (1 : Int) n11 h111 (ConsistencyGraph_sm s0 s1) (by omega) (by omega)) scal_i fun r12 n12 p12 => ?_
  obtain ⟨l112, q12⟩ := p12; dsimp only at l112 q12 ⊢; subst q12
  simp only [aBin_lss, bind_some']
  refine Ok.cnd (fun hf => absurd hf (by omega)) fun _ => ?_
  simp only [aBin_neq, bind_some', not_true_eq_false, decide_false]
  refine Ok.cndb (fun hf => Bool.noConfusion hf) fun _ => ?_
  refine Ok.callP (plain1 (t_pl_FactorS h0)) (t_to_FactorS h0 s0 n12) fun r13 n13 p13 => ?_
  obtain ⟨l113, h113, _⟩ := p13; dsimp only at l113 h113 ⊢
  refine Ok.callP (plain2 (t_pl_FactorS h113) (plain_int _ _)) (ConsistencyGraph_impl_ok h113 s0 (show RI (.int .i64 x1) x1 from rfl) s1 n13) fun r14 n14 p14 => ?_
  obtain ⟨l114, h114, _⟩ := p14; dsimp only at l114 h114 ⊢
  refine Ok.callS (mapO2 (res_plain (t_pl_BoolSS h114)) (res_plain (t_pl_BoolSS h103))) (t_eq_BoolSS h114 h103 (ConsistencyGraph_sm s0 s1) n14) scal_b fun r15 n15 p15 => ?_
  obtain ⟨l115, q15⟩ := p15; dsimp only at l115 q15 ⊢; subst q15
  rw [decide_eq_true (rfl : (ConsistencyGraph_M x0 x1) = (ConsistencyGraph_M x0 x1))]
  simp only [aUn_not, bind_some', Bool.not_true]
  refine Ok.cndb (fun hf => Bool.noConfusion hf) fun _ => ?_
  refine Ok.callS (mapO2 (t_res_BoolSS h111 o11) rfl) (t_held_BoolSS _ _ (1 : Int) n15 h111 (ConsistencyGraph_sm s0 s1) (by omega) (by omega)) scal_i fun r16 n16 p16 => ?_
  obtain ⟨l116, q16⟩ := p16; dsimp only at l116 q16 ⊢; subst q16
  simp only [aBin_lss, bind_some']
  refine Ok.cnd (fun hf => absurd hf (by omega)) fun _ => ?_
  simp only [aBin_neq, bind_some', not_true_eq_false, decide_false]
  refine Ok.cndb (fun hf => Bool.noConfusion hf) fun _ => ?_
  exact ⟨_, rfl, rfl⟩

end Go.Proofs.YtbomeeiaeohbpaaFw
namespace Go.Proofs.Ytbomeeiaeohbpaa
theorem FnExactConsistencyGraph_holds : Rows.FnExactConsistencyGraphSaid := fnExactConsistencyGraph.over YtbomeeiaeohbpaaFw.law_FnExactConsistencyGraph
end Go.Proofs.Ytbomeeiaeohbpaa
