/- The law FnExactOtherLoops answers true at every input. Conditions: those of each theorem. -/
import Derived.Test.YtpjddmfcikelcaaCts
import Derived.Test.YtpjddmfcikelcaaRowExactOtherLoops
set_option linter.unusedSimpArgs false
set_option linter.unusedVariables false
namespace Go.Proofs.YtpjddmfcikelcaaFw
open Go

theorem law_FnExactOtherLoops : ∀ xs, hasArgs [(false, [.sl true [.int .i64, .int .i64, .str, .str, .int .i64, .int .i64, .int .i64, .int .i64]]), (false, [.sl false [.int .i64]])] xs → ∃ n', L.call i_laws_FnExactOtherLoops xs 1 = some (.bool true, n') := by
  intro xs h
  obtain ⟨v0, v1, rfl, e0, e1⟩ := args2 h
  obtain ⟨x0, h0, b0⟩ := in_FactorS e0
  obtain ⟨x1, h1, b1⟩ := in_IntS e1
  suffices hs : Ok (L.call i_laws_FnExactOtherLoops [v0, v1] 1) fun p => p.1 = .bool true by
    obtain ⟨⟨r, n'⟩, e, hr⟩ := hs
    exact ⟨n', by rw [← show r = .bool true from hr]; exact e⟩
  have z0 : (st0 0).m = 0 := rfl
  rw [call_laws_FnExactOtherLoops, show st0 1 = (st0 0).setN 1 from rfl]
  generalize hE0 : st0 0 = E0 at *
  simp only [SlOf.len h1, bind_some', aBin_gtr]
  refine Ok.cnd (fun _ => ⟨_, rfl, rfl⟩) fun s1' => ?_
  have s1 : sm_IntS x1 := by unfold sm_IntS; omega
  refine Ok.callP (plain2 (t_pl_FactorS h0) (plain_int _ _)) (t_sz_FactorS h0 b0 (by omega) (by omega) 1) fun r1 n1 p1 => ?_
  obtain ⟨l101, z1, q1, y1, f1⟩ := p1; dsimp only at l101 q1 ⊢; subst q1
  simp only [aBin_lss, bind_some']
  refine Ok.cnd (fun _ => ⟨_, rfl, rfl⟩) fun g1 => ?_
  have s0 := f1 (by omega)
  refine Ok.callP (plain1 (t_pl_FactorS h0)) (t_to_FactorS h0 s0 n1) fun r2 n2 p2 => ?_
  obtain ⟨l102, h102, _⟩ := p2; dsimp only at l102 h102 ⊢
  refine Ok.callP (plain1 (t_pl_IntS h1)) (t_to_IntS h1 s1 n2) fun r3 n3 p3 => ?_
  obtain ⟨l103, h103, _⟩ := p3; dsimp only at l103 h103 ⊢
  refine Ok.callP (plain2 (t_pl_FactorS h102) (t_pl_IntS h103)) (OtherLoops_spec_ok h102 s0 h103 s1 n3) fun r4 n4 p4 => ?_
  obtain ⟨l104, h104⟩ := p4; dsimp only at l104 h104 ⊢
  refine Ok.callT (mapO1 (res_plain (t_pl_FactorS h0))) (t_to_FactorS h0 s0 n4) (fun _ _ p => p.2.2) (Nat.le_refl _) fun r5 n5 v5_ E5 p5 m5 K5 o5 => ?_
  obtain ⟨l105, h105, _⟩ := p5; dsimp only at l105 h105 ⊢
  refine Ok.callT (mapO1 (res_plain (t_pl_IntS h1))) (t_to_IntS h1 s1 n5) (fun _ _ p => p.2.2) (Nat.le_refl _) fun r6 n6 v6_ E6 p6 m6 K6 o6 => ?_
  obtain ⟨l106, h106, _⟩ := p6; dsimp only at l106 h106 ⊢
  have o6_x0 := o5.frame fun j _ hj => K6 j (by omega)
  refine Ok.callT (mapO2 (t_res_FactorS h105 o6_x0) (t_res_IntS h106 o6)) (OtherLoops_impl_ok h105 s0 h106 s1 n6) (fun _ _ p => p.2.2) (Nat.le_refl _) fun r7 n7 v7_ E7 p7 m7 K7 o7 => ?_
  obtain ⟨l107, h107, _⟩ := p7; dsimp only at l107 h107 ⊢
  have o7_x0 := o6_x0.frame fun j _ hj => K7 j (by omega)
  have o7_x1 := o6.frame fun j _ hj => K7 j (by omega)
  refine Ok.callS (mapO2 (t_res_IntS h107 o7) (res_plain (t_pl_IntS h104))) (t_eq_IntS h107 h104 (OtherLoops_sm s0 s1) n7) scal_b fun r8 n8 p8 => ?_
  obtain ⟨l108, q8⟩ := p8; dsimp only at l108 q8 ⊢; subst q8
  rw [decide_eq_true (rfl : (OtherLoops_M x0 x1) = (OtherLoops_M x0 x1))]
  simp only [aUn_not, bind_some', Bool.not_true]
  refine Ok.cndb (fun hf => Bool.noConfusion hf) fun _ => ?_
  refine Ok.callP (plain1 (t_pl_FactorS h0)) (t_to_FactorS h0 s0 n8) fun r9 n9 p9 => ?_
  obtain ⟨l109, h109, _⟩ := p9; dsimp only at l109 h109 ⊢
  refine Ok.callS (mapO2 (t_res_FactorS h105 o7_x0) (res_plain (t_pl_FactorS h109))) (t_eq_FactorS h105 h109 s0 n9) scal_b fun r10 n10 p10 => ?_
  obtain ⟨l110, q10⟩ := p10; dsimp only at l110 q10 ⊢; subst q10
  rw [decide_eq_true (rfl : x0 = x0)]
  simp only [aUn_not, bind_some', Bool.not_true]
  refine Ok.cndb (fun hf => Bool.noConfusion hf) fun _ => ?_
  refine Ok.callP (plain1 (t_pl_IntS h1)) (t_to_IntS h1 s1 n10) fun r11 n11 p11 => ?_
  obtain ⟨l111, h111, _⟩ := p11; dsimp only at l111 h111 ⊢
  refine Ok.callS (mapO2 (t_res_IntS h106 o7_x1) (res_plain (t_pl_IntS h111))) (t_eq_IntS h106 h111 s1 n11) scal_b fun r12 n12 p12 => ?_
  obtain ⟨l112, q12⟩ := p12; dsimp only at l112 q12 ⊢; subst q12
  rw [decide_eq_true (rfl : x1 = x1)]
  simp only [aUn_not, bind_some', Bool.not_true]
  refine Ok.cndb (fun hf => Bool.noConfusion hf) fun _ => ?_
  have c13 := cntB_FactorS s0
  refine Ok.inl (t_mark_FactorS (E7.setN n12) _ _ _ _ _ _ o7_x0.setN (by simp only [setN_m]; omega) h105 s0 (by omega) (by omega)) fun v13_ E13 n13 p13 => ?_
  obtain ⟨q13, K13, t13, o13, h113⟩ := p13; dsimp only at q13 K13 o13 h113 ⊢; subst q13; replace o13 := o13.unN
  have m13 := K13.2.1; simp only [setN_m] at m13
  have o13_x1 := (K13.own o7_x1.setN (by simp only [setN_m]; omega) (by omega)).unN
  have o13_g0 := (K13.own o7.setN (by simp only [setN_m]; omega) (by omega)).unN
  have c14 := cntB_IntS s1
  refine Ok.inl (t_mark_IntS (E13.setN n13) _ _ _ _ _ _ o13_x1.setN (by simp only [setN_m]; omega) h106 s1 (by omega) (by omega)) fun v14_ E14 n14 p14 => ?_
  obtain ⟨q14, K14, t14, o14, h114⟩ := p14; dsimp only at q14 K14 o14 h114 ⊢; subst q14; replace o14 := o14.unN
  have m14 := K14.2.1; simp only [setN_m] at m14
  have o14_x0 := (K14.own o13.setN (by simp only [setN_m]; omega) (by omega)).unN
  have o14_g0 := (K14.own o13_g0.setN (by simp only [setN_m]; omega) (by omega)).unN
  simp only [aBin_lss, bind_some']
  refine Ok.cnd (fun hf => absurd hf (by omega)) fun _ => ?_
  refine Ok.callS (mapO2 (t_res_IntS h107 o14_g0) (res_plain (t_pl_IntS h104))) (t_eq_IntS h107 h104 (OtherLoops_sm s0 s1) n14) scal_b fun r15 n15 p15 => ?_
  obtain ⟨l115, q15⟩ := p15; dsimp only at l115 q15 ⊢; subst q15
  rw [decide_eq_true (rfl : (OtherLoops_M x0 x1) = (OtherLoops_M x0 x1))]
  simp only [aUn_not, bind_some', Bool.not_true]
  refine Ok.cndb (fun hf => Bool.noConfusion hf) fun _ => ?_
  have c16 := cntB_IntS (OtherLoops_sm s0 s1)
  refine Ok.inl (t_mark_IntS (E14.setN n15) _ _ _ _ _ _ o14_g0.setN (by simp only [setN_m]; omega) h107 (OtherLoops_sm s0 s1) (by omega) (by omega)) fun v16_ E16 n16 p16 => ?_
  obtain ⟨q16, K16, t16, o16, h116⟩ := p16; dsimp only at q16 K16 o16 h116 ⊢; subst q16; replace o16 := o16.unN
  have m16 := K16.2.1; simp only [setN_m] at m16
  have o16_x0 := (K16.own o14_x0.setN (by simp only [setN_m]; omega) (by omega)).unN
  have o16_x1 := (K16.own o14.setN (by simp only [setN_m]; omega) (by omega)).unN
  refine Ok.callS (mapO2 (t_res_IntS h116 o16) rfl) (t_held_IntS _ _ (1 : Int) n16 h116 (by omega) (by omega)) scal_i fun r17 n17 p17 => ?_
  obtain ⟨l117, q17⟩ := p17; dsimp only at l117 q17 ⊢; subst q17
  simp only [aBin_lss, bind_some']
  refine Ok.cnd (fun hf => absurd hf (by omega)) fun _ => ?_
  simp only [aBin_neq, bind_some', not_true_eq_false, decide_false]
  refine Ok.cndb (fun hf => Bool.noConfusion hf) fun _ => ?_
  refine Ok.callP (plain1 (t_pl_FactorS h0)) (t_to_FactorS h0 s0 n17) fun r18 n18 p18 => ?_
  obtain ⟨l118, h118, _⟩ := p18; dsimp only at l118 h118 ⊢
  refine Ok.callP (plain1 (t_pl_IntS h1)) (t_to_IntS h1 s1 n18) fun r19 n19 p19 => ?_
  obtain ⟨l119, h119, _⟩ := p19; dsimp only at l119 h119 ⊢
  refine Ok.callP (plain2 (t_pl_FactorS h118) (t_pl_IntS h119)) (OtherLoops_impl_ok h118 s0 h119 s1 n19) fun r20 n20 p20 => ?_
  obtain ⟨l120, h120, _⟩ := p20; dsimp only at l120 h120 ⊢
  refine Ok.callS (mapO2 (res_plain (t_pl_IntS h120)) (res_plain (t_pl_IntS h104))) (t_eq_IntS h120 h104 (OtherLoops_sm s0 s1) n20) scal_b fun r21 n21 p21 => ?_
  obtain ⟨l121, q21⟩ := p21; dsimp only at l121 q21 ⊢; subst q21
  rw [decide_eq_true (rfl : (OtherLoops_M x0 x1) = (OtherLoops_M x0 x1))]
  simp only [aUn_not, bind_some', Bool.not_true]
  refine Ok.cndb (fun hf => Bool.noConfusion hf) fun _ => ?_
  refine Ok.callS (mapO2 (t_res_IntS h116 o16) rfl) (t_held_IntS _ _ (1 : Int) n21 h116 (by omega) (by omega)) scal_i fun r22 n22 p22 => ?_
  obtain ⟨l122, q22⟩ := p22; dsimp only at l122 q22 ⊢; subst q22
  simp only [aBin_lss, bind_some']
  refine Ok.cnd (fun hf => absurd hf (by omega)) fun _ => ?_
  simp only [aBin_neq, bind_some', not_true_eq_false, decide_false]
  refine Ok.cndb (fun hf => Bool.noConfusion hf) fun _ => ?_
  exact ⟨_, rfl, rfl⟩

end Go.Proofs.YtpjddmfcikelcaaFw
namespace Go.Proofs.Ytpjddmfcikelcaa
theorem FnExactOtherLoops_holds : Rows.FnExactOtherLoopsSaid := fnExactOtherLoops.over YtpjddmfcikelcaaFw.law_FnExactOtherLoops
end Go.Proofs.Ytpjddmfcikelcaa
