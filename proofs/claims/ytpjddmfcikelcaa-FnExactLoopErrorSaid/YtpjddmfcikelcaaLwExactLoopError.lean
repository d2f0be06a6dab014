/- The law FnExactLoopError answers true at every input. Conditions: those of each theorem. -/
import Derived.Test.YtpjddmfcikelcaaCts1
import Derived.Test.YtpjddmfcikelcaaRowExactLoopError
set_option linter.unusedSimpArgs false
set_option linter.unusedVariables false
namespace Go.Proofs.YtpjddmfcikelcaaFw
open Go

theorem law_FnExactLoopError : ∀ xs, hasArgs [(false, [.sl true [.int .i64, .int .i64, .str, .str, .int .i64, .int .i64, .int .i64, .int .i64]]), (false, [.int .i64]), (false, [.int .i64])] xs → ∃ n', L.call i_laws_FnExactLoopError xs 1 = some (.bool true, n') := by
  intro xs h
  obtain ⟨v0, v1, v2, rfl, e0, e1, e2⟩ := args3 h
  obtain ⟨x0, h0, b0⟩ := in_FactorS e0
  obtain ⟨x1, rfl, s1⟩ := in_int e1
  obtain ⟨x2, rfl, s2⟩ := in_int e2
  suffices hs : Ok (L.call i_laws_FnExactLoopError [v0, .int .i64 x1, .int .i64 x2] 1) fun p => p.1 = .bool true by
    obtain ⟨⟨r, n'⟩, e, hr⟩ := hs
    exact ⟨n', by rw [← show r = .bool true from hr]; exact e⟩
  rw [call_laws_FnExactLoopError]
  refine Ok.call (t_sz_FactorS h0 b0 (by omega) (by omega) _) (plain2 (t_pl_FactorS h0) (plain_int _ _)) fun r1 n1 p1 => ?_
  obtain ⟨_, z1, q1, y1, f1⟩ := p1; dsimp only at q1 ⊢; subst q1
  simp only [aBin_lss, bind_some']
  refine Ok.cnd (fun _ => ⟨_, rfl, rfl⟩) fun g1 => ?_
  have s0 := f1 (by omega)
  refine Ok.call (t_to_FactorS h0 s0 _) (plain1 (t_pl_FactorS h0)) fun r2 n2 p2 => ?_
  obtain ⟨_, h2, _⟩ := p2; dsimp only at h2 ⊢
  refine Ok.gives (LoopError_spec h2 s0 x1 x2) (plain3 (t_pl_FactorS h2) (plain_int _ _) (plain_int _ _)) fun n3 _ => ?_
  simp only [poseV, retV_one, retV_two, retV_three, mkNew_agg, mkNew_zc, ld_top, ld_old, ld_setN, sto_top, sto_old, sto_setN, faddr_ptr, faddr_eptr, ld_eptr, new_m', new_n', setN_m', setN_n', st0_m', st0_n', put_m', put_n', AV.cells, AV.one, AV.stor, ldCells, setElem, splice, List.all_cons, List.all_nil, List.length_cons, List.length_nil, List.drop, List.take, List.head?_cons, List.getElem?_cons_zero, List.getElem?_cons_succ, List.set_cons_zero, List.nil_append, List.cons_append, List.append_nil, List.drop_zero, List.drop_succ_cons, List.drop_nil, List.take_zero, List.take_succ_cons, List.take_nil, cond_true, cond_false, Bool.and_self, Bool.and_true, and_self, and_true, true_and, if_true, bind_some', Nat.add_zero, Nat.zero_add, Nat.reduceAdd, Nat.reduceLeDiff, ne_eq, not_false_eq_true, Nat.add_eq_zero_iff, Nat.reduceEqDiff, one_ne_zero', zero_ne_one', nne1, nne2, nne3, Nat.add_right_cancel_iff, Nat.add_left_cancel_iff, Nat.le_refl, reduceCtorEq, bind_some', aBin_lss, aBin_leq, aBin_gtr, aBin_geq, aBin_eql, aBin_neq, aBin_add, aBin_sub, aBin_mul, aBin_seql, aBin_sneq, aBinb_eql, aBinb_neq, aUn_not, aUn_neg, aSlen_str, extr0, extr1, extr2]
  refine Ok.call (t_to_FactorS h0 s0 _) (plain1 (t_pl_FactorS h0)) fun r4 n4 p4 => ?_
  obtain ⟨_, h4, _⟩ := p4; dsimp only at h4 ⊢
  refine Ok.gives (LoopError_impl h4 s0 x1 x2) (plain3 (t_pl_FactorS h4) (plain_int _ _) (plain_int _ _)) fun n5 _ => ?_
  simp only [poseV, retV_one, retV_two, retV_three, mkNew_agg, mkNew_zc, ld_top, ld_old, ld_setN, sto_top, sto_old, sto_setN, faddr_ptr, faddr_eptr, ld_eptr, new_m', new_n', setN_m', setN_n', st0_m', st0_n', put_m', put_n', AV.cells, AV.one, AV.stor, ldCells, setElem, splice, List.all_cons, List.all_nil, List.length_cons, List.length_nil, List.drop, List.take, List.head?_cons, List.getElem?_cons_zero, List.getElem?_cons_succ, List.set_cons_zero, List.nil_append, List.cons_append, List.append_nil, List.drop_zero, List.drop_succ_cons, List.drop_nil, List.take_zero, List.take_succ_cons, List.take_nil, cond_true, cond_false, Bool.and_self, Bool.and_true, and_self, and_true, true_and, if_true, bind_some', Nat.add_zero, Nat.zero_add, Nat.reduceAdd, Nat.reduceLeDiff, ne_eq, not_false_eq_true, Nat.add_eq_zero_iff, Nat.reduceEqDiff, one_ne_zero', zero_ne_one', nne1, nne2, nne3, Nat.add_right_cancel_iff, Nat.add_left_cancel_iff, Nat.le_refl, reduceCtorEq, bind_some', aBin_lss, aBin_leq, aBin_gtr, aBin_geq, aBin_eql, aBin_neq, aBin_add, aBin_sub, aBin_mul, aBin_seql, aBin_sneq, aBinb_eql, aBinb_neq, aUn_not, aUn_neg, aSlen_str, extr0, extr1, extr2]
  refine Ok.gives (eqPose_g (errM x0 x1 x2).1 (errM x0 x1 x2).1) (pB rfl) fun n6 _ => ?_
  simp only [retV_one, retV_two, retV_three, mkNew_agg, mkNew_zc, ld_top, ld_old, ld_setN, sto_top, sto_old, sto_setN, faddr_ptr, faddr_eptr, ld_eptr, new_m', new_n', setN_m', setN_n', st0_m', st0_n', put_m', put_n', AV.cells, AV.one, AV.stor, ldCells, setElem, splice, List.all_cons, List.all_nil, List.length_cons, List.length_nil, List.drop, List.take, List.head?_cons, List.getElem?_cons_zero, List.getElem?_cons_succ, List.set_cons_zero, List.nil_append, List.cons_append, List.append_nil, List.drop_zero, List.drop_succ_cons, List.drop_nil, List.take_zero, List.take_succ_cons, List.take_nil, cond_true, cond_false, Bool.and_self, Bool.and_true, and_self, and_true, true_and, if_true, bind_some', Nat.add_zero, Nat.zero_add, Nat.reduceAdd, Nat.reduceLeDiff, ne_eq, not_false_eq_true, Nat.add_eq_zero_iff, Nat.reduceEqDiff, one_ne_zero', zero_ne_one', nne1, nne2, nne3, Nat.add_right_cancel_iff, Nat.add_left_cancel_iff, Nat.le_refl, reduceCtorEq, bind_some', aBin_lss, aBin_leq, aBin_gtr, aBin_geq, aBin_eql, aBin_neq, aBin_add, aBin_sub, aBin_mul, aBin_seql, aBin_sneq, aBinb_eql, aBinb_neq, aUn_not, aUn_neg, aSlen_str, extr0, extr1, extr2, decide_true, Bool.not_true, not_true_eq_false, decide_false]
  refine Ok.cndb (fun hf => Bool.noConfusion hf) fun _ => ?_
  refine Ok.cndb (fun hf => Bool.noConfusion hf) fun _ => ?_
  refine Ok.call (t_to_FactorS h0 s0 _) (plain1 (t_pl_FactorS h0)) fun r7 n7 p7 => ?_
  obtain ⟨_, h7, _⟩ := p7; dsimp only at h7 ⊢
  refine Ok.call (t_eq_FactorS h4 h7 s0 _) (plain2 (t_pl_FactorS h4) (t_pl_FactorS h7)) fun r8 n8 p8 => ?_
  obtain ⟨_, q8⟩ := p8; dsimp only at q8 ⊢; subst q8
  rw [decide_eq_true (rfl : x0 = x0)]
  simp only [aUn_not, bind_some', Bool.not_true]
  refine Ok.cndb (fun hf => Bool.noConfusion hf) fun _ => ?_
  exact ⟨_, rfl, rfl⟩

end Go.Proofs.YtpjddmfcikelcaaFw
namespace Go.Proofs.Ytpjddmfcikelcaa
theorem FnExactLoopError_holds : Rows.FnExactLoopErrorSaid := fnExactLoopError.over YtpjddmfcikelcaaFw.law_FnExactLoopError
end Go.Proofs.Ytpjddmfcikelcaa
