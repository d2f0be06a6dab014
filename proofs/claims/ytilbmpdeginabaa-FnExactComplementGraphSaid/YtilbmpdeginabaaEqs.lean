/- The equations of the seat's functions, printed out of its code. Conditions: none beside each theorem's own. -/
import Derived.Test.YtilbmpdeginabaaEq
namespace Go.Proofs.YtilbmpdeginabaaFw
open Go
set_option maxRecDepth 20000
set_option linter.unusedVariables false

abbrev i_laws_FnExactComplementGraph : Nat := 8
abbrev i_laws_szBoolSS : Nat := 12
abbrev i_spec_IsGraph : Nat := 13
abbrev i_laws_toBoolSS : Nat := 14
abbrev i_impl_IsGraph : Nat := 15
abbrev i_laws_eqBoolSS : Nat := 16
abbrev i_impl_ComplementGraph : Nat := 21
abbrev i_spec_ComplementGraph : Nat := 28
abbrev i_laws_markBoolSS : Nat := 29
abbrev i_laws_heldBoolSS : Nat := 30
abbrev i_laws_szBoolS : Nat := 34
abbrev i_laws_toBoolS : Nat := 35
abbrev i_laws_eqBoolS : Nat := 36
abbrev i_laws_markBoolS : Nat := 44
abbrev i_laws_heldBoolS : Nat := 45


noncomputable def f_laws_FnExactComplementGraph : IFn := (F i_laws_FnExactComplementGraph).getD default

theorem call_laws_FnExactComplementGraph (a0 : AV) (n : Nat) : L.call i_laws_FnExactComplementGraph [a0] n =
  (clV L i_laws_szBoolSS 0 [a0, (.int .i64 1048576)] (st0 n)).bind fun v13_1 =>
  (aBin .lss v13_1.1 (.int .i64 0)).bind fun v15_2 =>
  cnd v15_2
  ((resTup v13_1.2 (.bool true)).bind fun r => some (r, v13_1.2.n))
  ((clV L i_laws_toBoolSS 0 [a0] v13_1.2).bind fun v17_3 =>
  (clV L i_spec_ComplementGraph 0 [v17_3.1] v17_3.2).bind fun v18_4 =>
  (clV L i_laws_toBoolSS 6 [a0] v18_4.2).bind fun v20_5 =>
  (clV L i_impl_ComplementGraph 6 [v20_5.1] v20_5.2).bind fun v22_6 =>
  (clV L i_laws_eqBoolSS 0 [v22_6.1, v18_4.1] v22_6.2).bind fun v25_7 =>
  (aUn .not v25_7.1).bind fun v26_8 =>
  cnd v26_8
  ((resTup v25_7.2 (.bool false)).bind fun r => some (r, v25_7.2.n))
  ((clV L i_laws_toBoolSS 0 [a0] v25_7.2).bind fun v29_9 =>
  (clV L i_laws_eqBoolSS 0 [v20_5.1, v29_9.1] v29_9.2).bind fun v30_10 =>
  (aUn .not v30_10.1).bind fun v31_11 =>
  cnd v31_11
  ((resTup v30_10.2 (.bool false)).bind fun r => some (r, v30_10.2.n))
  ((L.inl i_laws_markBoolSS [v20_5.1, (.int .i64 1)] v30_10.2).bind fun v34_12 =>
  (aBin .lss v34_12.1 (.int .i64 0)).bind fun v36_13 =>
  cnd v36_13
  ((resTup v34_12.2 (.bool false)).bind fun r => some (r, v34_12.2.n))
  ((clV L i_laws_eqBoolSS 0 [v22_6.1, v18_4.1] v34_12.2).bind fun v40_14 =>
  (aUn .not v40_14.1).bind fun v41_15 =>
  cnd v41_15
  ((resTup v40_14.2 (.bool false)).bind fun r => some (r, v40_14.2.n))
  ((L.inl i_laws_markBoolSS [v22_6.1, (.int .i64 1)] v40_14.2).bind fun v45_16 =>
  (clV L i_laws_heldBoolSS 0 [v22_6.1, (.int .i64 1)] v45_16.2).bind fun v48_17 =>
  (aBin .lss v48_17.1 (.int .i64 0)).bind fun v50_18 =>
  cnd v50_18
  ((resTup v48_17.2 (.bool false)).bind fun r => some (r, v48_17.2.n))
  ((aBin .neq v48_17.1 v45_16.1).bind fun v53_19 =>
  cnd v53_19
  ((resTup v48_17.2 (.bool false)).bind fun r => some (r, v48_17.2.n))
  ((clV L i_laws_toBoolSS 0 [a0] v48_17.2).bind fun v55_20 =>
  (clV L i_impl_ComplementGraph 0 [v55_20.1] v55_20.2).bind fun v56_21 =>
  (clV L i_laws_eqBoolSS 0 [v56_21.1, v18_4.1] v56_21.2).bind fun v59_22 =>
  (aUn .not v59_22.1).bind fun v60_23 =>
  cnd v60_23
  ((resTup v59_22.2 (.bool false)).bind fun r => some (r, v59_22.2.n))
  ((clV L i_laws_heldBoolSS 0 [v22_6.1, (.int .i64 1)] v59_22.2).bind fun v63_24 =>
  (aBin .lss v63_24.1 (.int .i64 0)).bind fun v65_25 =>
  cnd v65_25
  ((resTup v63_24.2 (.bool false)).bind fun r => some (r, v63_24.2.n))
  ((aBin .neq v63_24.1 v45_16.1).bind fun v68_26 =>
  cnd v68_26
  ((resTup v63_24.2 (.bool false)).bind fun r => some (r, v63_24.2.n))
  ((resTup v63_24.2 (.bool true)).bind fun r => some (r, v63_24.2.n))))))))))) := (lim_call F _ _ _).trans (by kernel_rfl)

noncomputable def f_laws_szBoolSS : IFn := (F i_laws_szBoolSS).getD default

noncomputable def b_laws_szBoolSS_1 : ICode := loopAt f_laws_szBoolSS.code 0

noncomputable def k_laws_szBoolSS_1 : XT × List AV × St → Option (AV × Nat) := resK L f_laws_szBoolSS.code [true, true, true, false, true] (callK f_laws_szBoolSS.rs)

theorem call_laws_szBoolSS (a0 : AV) (a1 : AV) (n : Nat) : L.call i_laws_szBoolSS [a0, a1] n =
  (aLen a0).bind fun v8_1 =>
  (aBin .sub a1 v8_1).bind fun v9_2 =>
  (aBin .lss v9_2 (.int .i64 0)).bind fun v11_3 =>
  cnd v11_3
  ((resTup (st0 n) (.int .i64 (-1))).bind fun r => some (r, (st0 n).n))
  ((L.loop [0, 1, 5] [1, 4] b_laws_szBoolSS_1 [a0, v9_2, (.int .i64 0)] (st0 n)).bind k_laws_szBoolSS_1) := (lim_call F _ _ _).trans (by kernel_rfl)

theorem loop_laws_szBoolSS_1 (x0 : AV) (x1 : AV) (x5 : AV) (st : St) : L.loop [0, 1, 5] [1, 4] b_laws_szBoolSS_1 [x0, x1, x5] st =
  (aLen x0).bind fun v14_1 =>
  (aBin .lss x5 v14_1).bind fun v15_2 =>
  cnd v15_2
  ((aIaddr 1 x0 x5).bind fun v20_3 =>
  (aLoad false 1 st v20_3).bind fun v21_4 =>
  (clV L i_laws_szBoolS 0 [v21_4, x1] st).bind fun v23_5 =>
  (aBin .lss v23_5.1 (.int .i64 0)).bind fun v25_6 =>
  cnd v25_6
  (some (.ret, [v23_5.1, (.int .i64 (-1))], v23_5.2))
  ((aBin .add x5 (.int .i64 1)).bind fun v17_7 =>
  L.loop [0, 1, 5] [1, 4] b_laws_szBoolSS_1 [x0, v23_5.1, v17_7] v23_5.2))
  (some ((.exit 0), [x1, .undef], st)) := (lim_loop F _ _ _ _ _).trans (by kernel_rfl)

theorem k_laws_szBoolSS_1_ret (o1 : AV) (o4 : AV) (st : St) : k_laws_szBoolSS_1 (.ret, [o1, o4], st) =
  (resTup st o4).bind fun r => some (r, st.n) := by kernel_rfl

theorem k_laws_szBoolSS_1_0 (o1 : AV) (o4 : AV) (st : St) : k_laws_szBoolSS_1 ((.exit 0), [o1, o4], st) =
  (resTup st o1).bind fun r => some (r, st.n) := by kernel_rfl

noncomputable def f_spec_IsGraph : IFn := (F i_spec_IsGraph).getD default

noncomputable def b_spec_IsGraph_1 : ICode := loopAt f_spec_IsGraph.code 0

noncomputable def b_spec_IsGraph_2 : ICode := loopAt f_spec_IsGraph.code 1

noncomputable def b_spec_IsGraph_3 : ICode := loopAt f_spec_IsGraph.code 2

noncomputable def k_spec_IsGraph_1 : XT × List AV × St → Option (AV × Nat) := resK L f_spec_IsGraph.code [true, true, false, true] (callK f_spec_IsGraph.rs)

noncomputable def k_spec_IsGraph_2 : XT × List AV × St → Option (AV × Nat) := resK L f_spec_IsGraph.code [true, true, true, false, true] (callK f_spec_IsGraph.rs)

noncomputable def k_spec_IsGraph_3 : XT × List AV × St → Option (XT × List AV × St) := resK L b_spec_IsGraph_2 [true, true, false, true, true] (loopK L [0, 24, 25, 26] [2] b_spec_IsGraph_2)

theorem call_spec_IsGraph (a0 : AV) (n : Nat) : L.call i_spec_IsGraph [a0] n =
  (aLen a0).bind fun v10_1 =>
  (aBin .gtr v10_1 (.int .i64 12)).bind fun v11_2 =>
  cnd v11_2
  ((resTup (st0 n) (.bool false)).bind fun r => some (r, (st0 n).n))
  ((aLen a0).bind fun v13_3 =>
  (L.loop [0, 12, 13, 14] [0, 2] b_spec_IsGraph_1 [a0, a0, v13_3, (.int .i64 0)] (st0 n)).bind k_spec_IsGraph_1) := (lim_call F _ _ _).trans (by kernel_rfl)

theorem loop_spec_IsGraph_1 (x0 : AV) (x12 : AV) (x13 : AV) (x14 : AV) (st : St) : L.loop [0, 12, 13, 14] [0, 2] b_spec_IsGraph_1 [x0, x12, x13, x14] st =
  (aBin .lss x14 x13).bind fun v15_1 =>
  cnd v15_1
  ((aIaddr 1 x12 x14).bind fun v16_2 =>
  (aLoad false 1 st v16_2).bind fun v17_3 =>
  (aLen v17_3).bind fun v19_4 =>
  (aLen x0).bind fun v21_5 =>
  (aBin .neq v19_4 v21_5).bind fun v22_6 =>
  cnd v22_6
  (some (.ret, [x0, (.bool false)], st))
  ((aBin .add x14 (.int .i64 1)).bind fun v23_7 =>
  L.loop [0, 12, 13, 14] [0, 2] b_spec_IsGraph_1 [x0, x12, x13, v23_7] st))
  (some ((.exit 0), [x0, .undef], st)) := (lim_loop F _ _ _ _ _).trans (by kernel_rfl)

theorem loop_spec_IsGraph_2 (x0 : AV) (x24 : AV) (x25 : AV) (x26 : AV) (st : St) : L.loop [0, 24, 25, 26] [2] b_spec_IsGraph_2 [x0, x24, x25, x26] st =
  (aBin .lss x26 x25).bind fun v27_1 =>
  cnd v27_1
  ((aIaddr 1 x24 x26).bind fun v29_2 =>
  (aLoad false 1 st v29_2).bind fun v30_3 =>
  (aLen v30_3).bind fun v32_4 =>
  (L.loop [0, 5, 24, 25, 26, 31, 32, 33] [0, 2, 24, 25, 26] b_spec_IsGraph_3 [x0, x26, x24, x25, x26, v30_3, v32_4, (.int .i64 0)] st).bind k_spec_IsGraph_3)
  (some ((.exit 2), [.undef], st)) := (lim_loop F _ _ _ _ _).trans (by kernel_rfl)

theorem loop_spec_IsGraph_3 (x0 : AV) (x5 : AV) (x24 : AV) (x25 : AV) (x26 : AV) (x31 : AV) (x32 : AV) (x33 : AV) (st : St) : L.loop [0, 5, 24, 25, 26, 31, 32, 33] [0, 2, 24, 25, 26] b_spec_IsGraph_3 [x0, x5, x24, x25, x26, x31, x32, x33] st =
  (aBin .lss x33 x32).bind fun v34_1 =>
  cnd v34_1
  ((aIaddr 1 x31 x33).bind fun v36_2 =>
  (aLoad false 1 st v36_2).bind fun v37_3 =>
  cnd v37_3
  ((aBin .eql x5 x33).bind fun v42_4 =>
  cnd v42_4
  (some (.ret, [x0, (.bool false), x24, x25, x26], st))
  ((aIaddr 1 x0 x33).bind fun v48_5 =>
  (aLoad false 1 st v48_5).bind fun v49_6 =>
  (aIaddr 1 v49_6 x5).bind fun v51_7 =>
  (aLoad false 1 st v51_7).bind fun v52_8 =>
  (aBinb .neq v37_3 v52_8).bind fun v53_9 =>
  cnd v53_9
  (some (.ret, [x0, (.bool false), x24, x25, x26], st))
  ((aBin .add x33 (.int .i64 1)).bind fun v55_10 =>
  L.loop [0, 5, 24, 25, 26, 31, 32, 33] [0, 2, 24, 25, 26] b_spec_IsGraph_3 [x0, x5, x24, x25, x26, x31, x32, v55_10] st)))
  ((aIaddr 1 x0 x33).bind fun v48_11 =>
  (aLoad false 1 st v48_11).bind fun v49_12 =>
  (aIaddr 1 v49_12 x5).bind fun v51_13 =>
  (aLoad false 1 st v51_13).bind fun v52_14 =>
  (aBinb .neq v37_3 v52_14).bind fun v53_15 =>
  cnd v53_15
  (some (.ret, [x0, (.bool false), x24, x25, x26], st))
  ((aBin .add x33 (.int .i64 1)).bind fun v55_16 =>
  L.loop [0, 5, 24, 25, 26, 31, 32, 33] [0, 2, 24, 25, 26] b_spec_IsGraph_3 [x0, x5, x24, x25, x26, x31, x32, v55_16] st)))
  (some ((.exit 4), [x0, .undef, x24, x25, x26], st)) := (lim_loop F _ _ _ _ _).trans (by kernel_rfl)

theorem k_spec_IsGraph_1_ret (o0 : AV) (o2 : AV) (st : St) : k_spec_IsGraph_1 (.ret, [o0, o2], st) =
  (resTup st o2).bind fun r => some (r, st.n) := by kernel_rfl

theorem k_spec_IsGraph_1_0 (o0 : AV) (o2 : AV) (st : St) : k_spec_IsGraph_1 ((.exit 0), [o0, o2], st) =
  (aLen o0).bind fun v25_1 =>
  (L.loop [0, 24, 25, 26] [2] b_spec_IsGraph_2 [o0, o0, v25_1, (.int .i64 0)] st).bind k_spec_IsGraph_2 := by kernel_rfl

theorem k_spec_IsGraph_2_ret (o2 : AV) (st : St) : k_spec_IsGraph_2 (.ret, [o2], st) =
  (resTup st o2).bind fun r => some (r, st.n) := by kernel_rfl

theorem k_spec_IsGraph_2_2 (o2 : AV) (st : St) : k_spec_IsGraph_2 ((.exit 2), [o2], st) =
  (resTup st (.bool true)).bind fun r => some (r, st.n) := by kernel_rfl

theorem k_spec_IsGraph_3_ret (o0 : AV) (o2 : AV) (o24 : AV) (o25 : AV) (o26 : AV) (st : St) : k_spec_IsGraph_3 (.ret, [o0, o2, o24, o25, o26], st) =
  some (.ret, [o2], st) := by kernel_rfl

theorem k_spec_IsGraph_3_4 (o0 : AV) (o2 : AV) (o24 : AV) (o25 : AV) (o26 : AV) (st : St) : k_spec_IsGraph_3 ((.exit 4), [o0, o2, o24, o25, o26], st) =
  (aBin .add o26 (.int .i64 1)).bind fun v56_1 =>
  L.loop [0, 24, 25, 26] [2] b_spec_IsGraph_2 [o0, o24, o25, v56_1] st := by kernel_rfl

noncomputable def f_laws_toBoolSS : IFn := (F i_laws_toBoolSS).getD default

noncomputable def b_laws_toBoolSS_1 : ICode := loopAt f_laws_toBoolSS.code 0

noncomputable def k_laws_toBoolSS_1 : XT × List AV × St → Option (AV × Nat) := resK L f_laws_toBoolSS.code [true, true, false, true] (callK f_laws_toBoolSS.rs)

theorem call_laws_toBoolSS (a0 : AV) (n : Nat) : L.call i_laws_toBoolSS [a0] n =
  (aLen a0).bind fun v6_1 =>
  mkMake 1 .nils v6_1 v6_1 (st0 n) fun v7_2 vs_3 =>
  (L.loop [0, 3, 4] [2, 3] b_laws_toBoolSS_1 [a0, v7_2, (.int .i64 0)] vs_3).bind k_laws_toBoolSS_1 := (lim_call F _ _ _).trans (by kernel_rfl)

theorem loop_laws_toBoolSS_1 (x0 : AV) (x3 : AV) (x4 : AV) (st : St) : L.loop [0, 3, 4] [2, 3] b_laws_toBoolSS_1 [x0, x3, x4] st =
  (aLen x0).bind fun v10_1 =>
  (aBin .lss x4 v10_1).bind fun v11_2 =>
  cnd v11_2
  ((aIaddr 1 x0 x4).bind fun v18_3 =>
  (aLoad false 1 st v18_3).bind fun v19_4 =>
  (clV L i_laws_toBoolS 0 [v19_4] st).bind fun v20_5 =>
  (aIaddr 1 x3 x4).bind fun v21_6 =>
  (aStore 1 v21_6 v20_5.1 v20_5.2).bind fun vs_7 =>
  (aBin .add x4 (.int .i64 1)).bind fun v13_8 =>
  L.loop [0, 3, 4] [2, 3] b_laws_toBoolSS_1 [x0, x3, v13_8] vs_7)
  (some ((.exit 0), [.undef, x3], st)) := (lim_loop F _ _ _ _ _).trans (by kernel_rfl)

theorem k_laws_toBoolSS_1_0 (o2 : AV) (o3 : AV) (st : St) : k_laws_toBoolSS_1 ((.exit 0), [o2, o3], st) =
  (resTup st o3).bind fun r => some (r, st.n) := by kernel_rfl

noncomputable def f_impl_IsGraph : IFn := (F i_impl_IsGraph).getD default

noncomputable def b_impl_IsGraph_1 : ICode := loopAt f_impl_IsGraph.code 0

noncomputable def b_impl_IsGraph_2 : ICode := loopAt f_impl_IsGraph.code 1

noncomputable def b_impl_IsGraph_3 : ICode := loopAt f_impl_IsGraph.code 2

noncomputable def k_impl_IsGraph_1 : XT × List AV × St → Option (AV × Nat) := resK L f_impl_IsGraph.code [true, true, true, false, true] (callK f_impl_IsGraph.rs)

noncomputable def k_impl_IsGraph_2 : XT × List AV × St → Option (AV × Nat) := resK L f_impl_IsGraph.code [true, true, true, true, false, true] (callK f_impl_IsGraph.rs)

noncomputable def k_impl_IsGraph_3 : XT × List AV × St → Option (XT × List AV × St) := resK L b_impl_IsGraph_2 [true, true, false, true, true] (loopK L [0, 25, 26, 27] [2] b_impl_IsGraph_2)

theorem call_impl_IsGraph (a0 : AV) (n : Nat) : L.call i_impl_IsGraph [a0] n =
  (aLen a0).bind fun v11_1 =>
  (aBin .gtr v11_1 (.int .i64 12)).bind fun v13_2 =>
  cnd v13_2
  ((resTup (st0 n) (.bool false)).bind fun r => some (r, (st0 n).n))
  ((aLen a0).bind fun v15_3 =>
  (L.loop [0, 3, 14, 15, 16] [0, 2] b_impl_IsGraph_1 [a0, v11_1, a0, v15_3, (.int .i64 0)] (st0 n)).bind k_impl_IsGraph_1) := (lim_call F _ _ _).trans (by kernel_rfl)

theorem loop_impl_IsGraph_1 (x0 : AV) (x3 : AV) (x14 : AV) (x15 : AV) (x16 : AV) (st : St) : L.loop [0, 3, 14, 15, 16] [0, 2] b_impl_IsGraph_1 [x0, x3, x14, x15, x16] st =
  (aBin .lss x16 x15).bind fun v17_1 =>
  cnd v17_1
  ((aIaddr 1 x14 x16).bind fun v18_2 =>
  (aLoad false 1 st v18_2).bind fun v19_3 =>
  (aLen v19_3).bind fun v21_4 =>
  (aBin .neq v21_4 x3).bind fun v23_5 =>
  cnd v23_5
  (some (.ret, [x0, (.bool false)], st))
  ((aBin .add x16 (.int .i64 1)).bind fun v24_6 =>
  L.loop [0, 3, 14, 15, 16] [0, 2] b_impl_IsGraph_1 [x0, x3, x14, x15, v24_6] st))
  (some ((.exit 0), [x0, .undef], st)) := (lim_loop F _ _ _ _ _).trans (by kernel_rfl)

theorem loop_impl_IsGraph_2 (x0 : AV) (x25 : AV) (x26 : AV) (x27 : AV) (st : St) : L.loop [0, 25, 26, 27] [2] b_impl_IsGraph_2 [x0, x25, x26, x27] st =
  (aBin .lss x27 x26).bind fun v28_1 =>
  cnd v28_1
  ((aIaddr 1 x25 x27).bind fun v30_2 =>
  (aLoad false 1 st v30_2).bind fun v31_3 =>
  (aLen v31_3).bind fun v33_4 =>
  (L.loop [0, 6, 25, 26, 27, 32, 33, 34] [0, 2, 25, 26, 27] b_impl_IsGraph_3 [x0, x27, x25, x26, x27, v31_3, v33_4, (.int .i64 0)] st).bind k_impl_IsGraph_3)
  (some ((.exit 2), [.undef], st)) := (lim_loop F _ _ _ _ _).trans (by kernel_rfl)

theorem loop_impl_IsGraph_3 (x0 : AV) (x6 : AV) (x25 : AV) (x26 : AV) (x27 : AV) (x32 : AV) (x33 : AV) (x34 : AV) (st : St) : L.loop [0, 6, 25, 26, 27, 32, 33, 34] [0, 2, 25, 26, 27] b_impl_IsGraph_3 [x0, x6, x25, x26, x27, x32, x33, x34] st =
  (aBin .lss x34 x33).bind fun v35_1 =>
  cnd v35_1
  ((aIaddr 1 x32 x34).bind fun v37_2 =>
  (aLoad false 1 st v37_2).bind fun v38_3 =>
  cnd v38_3
  ((aBin .eql x6 x34).bind fun v43_4 =>
  cnd v43_4
  (some (.ret, [x0, (.bool false), x25, x26, x27], st))
  ((aIaddr 1 x0 x34).bind fun v49_5 =>
  (aLoad false 1 st v49_5).bind fun v50_6 =>
  (aIaddr 1 v50_6 x6).bind fun v52_7 =>
  (aLoad false 1 st v52_7).bind fun v53_8 =>
  (aBinb .neq v38_3 v53_8).bind fun v54_9 =>
  cnd v54_9
  (some (.ret, [x0, (.bool false), x25, x26, x27], st))
  ((aBin .add x34 (.int .i64 1)).bind fun v56_10 =>
  L.loop [0, 6, 25, 26, 27, 32, 33, 34] [0, 2, 25, 26, 27] b_impl_IsGraph_3 [x0, x6, x25, x26, x27, x32, x33, v56_10] st)))
  ((aIaddr 1 x0 x34).bind fun v49_11 =>
  (aLoad false 1 st v49_11).bind fun v50_12 =>
  (aIaddr 1 v50_12 x6).bind fun v52_13 =>
  (aLoad false 1 st v52_13).bind fun v53_14 =>
  (aBinb .neq v38_3 v53_14).bind fun v54_15 =>
  cnd v54_15
  (some (.ret, [x0, (.bool false), x25, x26, x27], st))
  ((aBin .add x34 (.int .i64 1)).bind fun v56_16 =>
  L.loop [0, 6, 25, 26, 27, 32, 33, 34] [0, 2, 25, 26, 27] b_impl_IsGraph_3 [x0, x6, x25, x26, x27, x32, x33, v56_16] st)))
  (some ((.exit 4), [x0, .undef, x25, x26, x27], st)) := (lim_loop F _ _ _ _ _).trans (by kernel_rfl)

theorem k_impl_IsGraph_1_ret (o0 : AV) (o2 : AV) (st : St) : k_impl_IsGraph_1 (.ret, [o0, o2], st) =
  (resTup st o2).bind fun r => some (r, st.n) := by kernel_rfl

theorem k_impl_IsGraph_1_0 (o0 : AV) (o2 : AV) (st : St) : k_impl_IsGraph_1 ((.exit 0), [o0, o2], st) =
  (aLen o0).bind fun v26_1 =>
  (L.loop [0, 25, 26, 27] [2] b_impl_IsGraph_2 [o0, o0, v26_1, (.int .i64 0)] st).bind k_impl_IsGraph_2 := by kernel_rfl

theorem k_impl_IsGraph_2_ret (o2 : AV) (st : St) : k_impl_IsGraph_2 (.ret, [o2], st) =
  (resTup st o2).bind fun r => some (r, st.n) := by kernel_rfl

theorem k_impl_IsGraph_2_2 (o2 : AV) (st : St) : k_impl_IsGraph_2 ((.exit 2), [o2], st) =
  (resTup st (.bool true)).bind fun r => some (r, st.n) := by kernel_rfl

theorem k_impl_IsGraph_3_ret (o0 : AV) (o2 : AV) (o25 : AV) (o26 : AV) (o27 : AV) (st : St) : k_impl_IsGraph_3 (.ret, [o0, o2, o25, o26, o27], st) =
  some (.ret, [o2], st) := by kernel_rfl

theorem k_impl_IsGraph_3_4 (o0 : AV) (o2 : AV) (o25 : AV) (o26 : AV) (o27 : AV) (st : St) : k_impl_IsGraph_3 ((.exit 4), [o0, o2, o25, o26, o27], st) =
  (aBin .add o27 (.int .i64 1)).bind fun v57_1 =>
  L.loop [0, 25, 26, 27] [2] b_impl_IsGraph_2 [o0, o25, o26, v57_1] st := by kernel_rfl

noncomputable def f_laws_eqBoolSS : IFn := (F i_laws_eqBoolSS).getD default

noncomputable def b_laws_eqBoolSS_1 : ICode := loopAt f_laws_eqBoolSS.code 0

noncomputable def k_laws_eqBoolSS_1 : XT × List AV × St → Option (AV × Nat) := resK L f_laws_eqBoolSS.code [true, true, false, true] (callK f_laws_eqBoolSS.rs)

theorem call_laws_eqBoolSS (a0 : AV) (a1 : AV) (n : Nat) : L.call i_laws_eqBoolSS [a0, a1] n =
  (aLen a0).bind fun v7_1 =>
  (aLen a1).bind fun v9_2 =>
  (aBin .neq v7_1 v9_2).bind fun v10_3 =>
  cnd v10_3
  ((resTup (st0 n) (.bool false)).bind fun r => some (r, (st0 n).n))
  ((L.loop [0, 1, 5] [4] b_laws_eqBoolSS_1 [a0, a1, (.int .i64 0)] (st0 n)).bind k_laws_eqBoolSS_1) := (lim_call F _ _ _).trans (by kernel_rfl)

theorem loop_laws_eqBoolSS_1 (x0 : AV) (x1 : AV) (x5 : AV) (st : St) : L.loop [0, 1, 5] [4] b_laws_eqBoolSS_1 [x0, x1, x5] st =
  (aLen x0).bind fun v13_1 =>
  (aBin .lss x5 v13_1).bind fun v14_2 =>
  cnd v14_2
  ((aIaddr 1 x0 x5).bind fun v19_3 =>
  (aLoad false 1 st v19_3).bind fun v20_4 =>
  (aIaddr 1 x1 x5).bind fun v23_5 =>
  (aLoad false 1 st v23_5).bind fun v24_6 =>
  (clV L i_laws_eqBoolS 0 [v20_4, v24_6] st).bind fun v25_7 =>
  (aUn .not v25_7.1).bind fun v26_8 =>
  cnd v26_8
  (some (.ret, [(.bool false)], v25_7.2))
  ((aBin .add x5 (.int .i64 1)).bind fun v16_9 =>
  L.loop [0, 1, 5] [4] b_laws_eqBoolSS_1 [x0, x1, v16_9] v25_7.2))
  (some ((.exit 0), [.undef], st)) := (lim_loop F _ _ _ _ _).trans (by kernel_rfl)

theorem k_laws_eqBoolSS_1_ret (o4 : AV) (st : St) : k_laws_eqBoolSS_1 (.ret, [o4], st) =
  (resTup st o4).bind fun r => some (r, st.n) := by kernel_rfl

theorem k_laws_eqBoolSS_1_0 (o4 : AV) (st : St) : k_laws_eqBoolSS_1 ((.exit 0), [o4], st) =
  (resTup st (.bool true)).bind fun r => some (r, st.n) := by kernel_rfl

noncomputable def f_impl_ComplementGraph : IFn := (F i_impl_ComplementGraph).getD default

noncomputable def b_impl_ComplementGraph_1 : ICode := loopAt f_impl_ComplementGraph.code 0

noncomputable def b_impl_ComplementGraph_2 : ICode := loopAt f_impl_ComplementGraph.code 1

noncomputable def k_impl_ComplementGraph_1 : XT × List AV × St → Option (AV × Nat) := resK L f_impl_ComplementGraph.code [true, true, true, false, true] (callK f_impl_ComplementGraph.rs)

noncomputable def k_impl_ComplementGraph_2 : XT × List AV × St → Option (XT × List AV × St) := resK L b_impl_ComplementGraph_1 [true, true, false, true, true, false, true] (loopK L [3, 13, 14, 15] [2, 3] b_impl_ComplementGraph_1)

theorem call_impl_ComplementGraph (a0 : AV) (n : Nat) : L.call i_impl_ComplementGraph [a0] n =
  (clV L i_impl_IsGraph 0 [a0] (st0 n)).bind fun v10_1 =>
  (aUn .not v10_1.1).bind fun v11_2 =>
  cnd v11_2
  ((resTup v10_1.2 .nils).bind fun r => some (r, v10_1.2.n))
  (mkLit 0 1 .nils [] v10_1.2 fun v12_3 vs_4 =>
  (aLen a0).bind fun v14_5 =>
  (L.loop [3, 13, 14, 15] [2, 3] b_impl_ComplementGraph_1 [v12_3, a0, v14_5, (.int .i64 0)] vs_4).bind k_impl_ComplementGraph_1) := (lim_call F _ _ _).trans (by kernel_rfl)

theorem loop_impl_ComplementGraph_1 (x3 : AV) (x13 : AV) (x14 : AV) (x15 : AV) (st : St) : L.loop [3, 13, 14, 15] [2, 3] b_impl_ComplementGraph_1 [x3, x13, x14, x15] st =
  (aBin .lss x15 x14).bind fun v16_1 =>
  cnd v16_1
  ((aIaddr 1 x13 x15).bind fun v18_2 =>
  (aLoad false 1 st v18_2).bind fun v19_3 =>
  mkLit 0 1 (.bool false) [] st fun v20_4 vs_5 =>
  (aLen v19_3).bind fun v22_6 =>
  (L.loop [3, 4, 6, 13, 14, 15, 21, 22, 23] [2, 3, 6, 13, 14, 15] b_impl_ComplementGraph_2 [x3, x15, v20_4, x13, x14, x15, v19_3, v22_6, (.int .i64 0)] vs_5).bind k_impl_ComplementGraph_2)
  (some ((.exit 0), [.undef, x3], st)) := (lim_loop F _ _ _ _ _).trans (by kernel_rfl)

theorem loop_impl_ComplementGraph_2 (x3 : AV) (x4 : AV) (x6 : AV) (x13 : AV) (x14 : AV) (x15 : AV) (x21 : AV) (x22 : AV) (x23 : AV) (st : St) : L.loop [3, 4, 6, 13, 14, 15, 21, 22, 23] [2, 3, 6, 13, 14, 15] b_impl_ComplementGraph_2 [x3, x4, x6, x13, x14, x15, x21, x22, x23] st =
  (aBin .lss x23 x22).bind fun v24_1 =>
  cnd v24_1
  ((aIaddr 1 x21 x23).bind fun v26_2 =>
  (aLoad false 1 st v26_2).bind fun v27_3 =>
  (aBin .neq x4 x23).bind fun v31_4 =>
  cnd v31_4
  ((aUn .not v27_3).bind fun v34_5 =>
  mkLit 1 1 (.bool false) [(0, v34_5)] st fun v36_6 vs_7 =>
  (aApp 1 x6 v36_6 vs_7).bind fun v37_8 =>
  (aBin .add x23 (.int .i64 1)).bind fun v38_9 =>
  L.loop [3, 4, 6, 13, 14, 15, 21, 22, 23] [2, 3, 6, 13, 14, 15] b_impl_ComplementGraph_2 [x3, x4, v37_8.1, x13, x14, x15, x21, x22, v38_9] v37_8.2)
  (mkLit 1 1 (.bool false) [(0, (.bool false))] st fun v36_10 vs_11 =>
  (aApp 1 x6 v36_10 vs_11).bind fun v37_12 =>
  (aBin .add x23 (.int .i64 1)).bind fun v38_13 =>
  L.loop [3, 4, 6, 13, 14, 15, 21, 22, 23] [2, 3, 6, 13, 14, 15] b_impl_ComplementGraph_2 [x3, x4, v37_12.1, x13, x14, x15, x21, x22, v38_13] v37_12.2))
  (some ((.exit 2), [.undef, x3, x6, x13, x14, x15], st)) := (lim_loop F _ _ _ _ _).trans (by kernel_rfl)

theorem k_impl_ComplementGraph_1_0 (o2 : AV) (o3 : AV) (st : St) : k_impl_ComplementGraph_1 ((.exit 0), [o2, o3], st) =
  (resTup st o3).bind fun r => some (r, st.n) := by kernel_rfl

theorem k_impl_ComplementGraph_2_2 (o2 : AV) (o3 : AV) (o6 : AV) (o13 : AV) (o14 : AV) (o15 : AV) (st : St) : k_impl_ComplementGraph_2 ((.exit 2), [o2, o3, o6, o13, o14, o15], st) =
  mkLit 1 1 .nils [(0, o6)] st fun v41_1 vs_2 =>
  (aApp 1 o3 v41_1 vs_2).bind fun v42_3 =>
  (aBin .add o15 (.int .i64 1)).bind fun v43_4 =>
  L.loop [3, 13, 14, 15] [2, 3] b_impl_ComplementGraph_1 [v42_3.1, o13, o14, v43_4] v42_3.2 := by kernel_rfl

noncomputable def f_spec_ComplementGraph : IFn := (F i_spec_ComplementGraph).getD default

noncomputable def b_spec_ComplementGraph_1 : ICode := loopAt f_spec_ComplementGraph.code 0

noncomputable def b_spec_ComplementGraph_2 : ICode := loopAt f_spec_ComplementGraph.code 1

noncomputable def k_spec_ComplementGraph_1 : XT × List AV × St → Option (AV × Nat) := resK L f_spec_ComplementGraph.code [true, true, true, false, true] (callK f_spec_ComplementGraph.rs)

noncomputable def k_spec_ComplementGraph_2 : XT × List AV × St → Option (XT × List AV × St) := resK L b_spec_ComplementGraph_1 [true, true, false, true, true, false, true] (loopK L [3, 13, 14, 15] [2, 3] b_spec_ComplementGraph_1)

theorem call_spec_ComplementGraph (a0 : AV) (n : Nat) : L.call i_spec_ComplementGraph [a0] n =
  mkLit 0 1 .nils [] (st0 n) fun v9_1 vs_2 =>
  (clV L i_spec_IsGraph 0 [a0] vs_2).bind fun v11_3 =>
  (aUn .not v11_3.1).bind fun v12_4 =>
  cnd v12_4
  ((resTup v11_3.2 .nils).bind fun r => some (r, v11_3.2.n))
  ((aLen a0).bind fun v14_5 =>
  (L.loop [3, 13, 14, 15] [2, 3] b_spec_ComplementGraph_1 [v9_1, a0, v14_5, (.int .i64 0)] v11_3.2).bind k_spec_ComplementGraph_1) := (lim_call F _ _ _).trans (by kernel_rfl)

theorem loop_spec_ComplementGraph_1 (x3 : AV) (x13 : AV) (x14 : AV) (x15 : AV) (st : St) : L.loop [3, 13, 14, 15] [2, 3] b_spec_ComplementGraph_1 [x3, x13, x14, x15] st =
  (aBin .lss x15 x14).bind fun v16_1 =>
  cnd v16_1
  ((aIaddr 1 x13 x15).bind fun v18_2 =>
  (aLoad false 1 st v18_2).bind fun v19_3 =>
  mkLit 0 1 (.bool false) [] st fun v20_4 vs_5 =>
  (aLen v19_3).bind fun v22_6 =>
  (L.loop [3, 4, 6, 13, 14, 15, 21, 22, 23] [2, 3, 6, 13, 14, 15] b_spec_ComplementGraph_2 [x3, x15, v20_4, x13, x14, x15, v19_3, v22_6, (.int .i64 0)] vs_5).bind k_spec_ComplementGraph_2)
  (some ((.exit 0), [.undef, x3], st)) := (lim_loop F _ _ _ _ _).trans (by kernel_rfl)

theorem loop_spec_ComplementGraph_2 (x3 : AV) (x4 : AV) (x6 : AV) (x13 : AV) (x14 : AV) (x15 : AV) (x21 : AV) (x22 : AV) (x23 : AV) (st : St) : L.loop [3, 4, 6, 13, 14, 15, 21, 22, 23] [2, 3, 6, 13, 14, 15] b_spec_ComplementGraph_2 [x3, x4, x6, x13, x14, x15, x21, x22, x23] st =
  (aBin .lss x23 x22).bind fun v24_1 =>
  cnd v24_1
  ((aIaddr 1 x21 x23).bind fun v26_2 =>
  (aLoad false 1 st v26_2).bind fun v27_3 =>
  (aBin .neq x4 x23).bind fun v31_4 =>
  cnd v31_4
  ((aUn .not v27_3).bind fun v34_5 =>
  mkLit 1 1 (.bool false) [(0, v34_5)] st fun v36_6 vs_7 =>
  (aApp 1 x6 v36_6 vs_7).bind fun v37_8 =>
  (aBin .add x23 (.int .i64 1)).bind fun v38_9 =>
  L.loop [3, 4, 6, 13, 14, 15, 21, 22, 23] [2, 3, 6, 13, 14, 15] b_spec_ComplementGraph_2 [x3, x4, v37_8.1, x13, x14, x15, x21, x22, v38_9] v37_8.2)
  (mkLit 1 1 (.bool false) [(0, (.bool false))] st fun v36_10 vs_11 =>
  (aApp 1 x6 v36_10 vs_11).bind fun v37_12 =>
  (aBin .add x23 (.int .i64 1)).bind fun v38_13 =>
  L.loop [3, 4, 6, 13, 14, 15, 21, 22, 23] [2, 3, 6, 13, 14, 15] b_spec_ComplementGraph_2 [x3, x4, v37_12.1, x13, x14, x15, x21, x22, v38_13] v37_12.2))
  (some ((.exit 2), [.undef, x3, x6, x13, x14, x15], st)) := (lim_loop F _ _ _ _ _).trans (by kernel_rfl)

theorem k_spec_ComplementGraph_1_0 (o2 : AV) (o3 : AV) (st : St) : k_spec_ComplementGraph_1 ((.exit 0), [o2, o3], st) =
  (resTup st o3).bind fun r => some (r, st.n) := by kernel_rfl

theorem k_spec_ComplementGraph_2_2 (o2 : AV) (o3 : AV) (o6 : AV) (o13 : AV) (o14 : AV) (o15 : AV) (st : St) : k_spec_ComplementGraph_2 ((.exit 2), [o2, o3, o6, o13, o14, o15], st) =
  mkLit 1 1 .nils [(0, o6)] st fun v41_1 vs_2 =>
  (aApp 1 o3 v41_1 vs_2).bind fun v42_3 =>
  (aBin .add o15 (.int .i64 1)).bind fun v43_4 =>
  L.loop [3, 13, 14, 15] [2, 3] b_spec_ComplementGraph_1 [v42_3.1, o13, o14, v43_4] v42_3.2 := by kernel_rfl

noncomputable def f_laws_markBoolSS : IFn := (F i_laws_markBoolSS).getD default

noncomputable def b_laws_markBoolSS_1 : ICode := loopAt f_laws_markBoolSS.code 0

noncomputable def k_laws_markBoolSS_1 : XT × List AV × St → Option (AV × Nat) := resK L f_laws_markBoolSS.code [true, false, true] (callK f_laws_markBoolSS.rs)

theorem call_laws_markBoolSS (a0 : AV) (a1 : AV) (n : Nat) : L.call i_laws_markBoolSS [a0, a1] n =
  (L.loop [0, 1, 5] [1, 4] b_laws_markBoolSS_1 [a0, a1, (.int .i64 0)] (st0 n)).bind k_laws_markBoolSS_1 := (lim_call F _ _ _).trans (by kernel_rfl)

theorem loop_laws_markBoolSS_1 (x0 : AV) (x1 : AV) (x5 : AV) (st : St) : L.loop [0, 1, 5] [1, 4] b_laws_markBoolSS_1 [x0, x1, x5] st =
  (aLen x0).bind fun v8_1 =>
  (aBin .lss x5 v8_1).bind fun v9_2 =>
  cnd v9_2
  ((aIaddr 1 x0 x5).bind fun v14_3 =>
  (aLoad false 1 st v14_3).bind fun v15_4 =>
  (L.inl i_laws_markBoolS [v15_4, x1] st).bind fun v17_5 =>
  (aBin .add x5 (.int .i64 1)).bind fun v11_6 =>
  L.loop [0, 1, 5] [1, 4] b_laws_markBoolSS_1 [x0, v17_5.1, v11_6] v17_5.2)
  (some ((.exit 0), [x1, .undef], st)) := (lim_loop F _ _ _ _ _).trans (by kernel_rfl)

theorem k_laws_markBoolSS_1_0 (o1 : AV) (o4 : AV) (st : St) : k_laws_markBoolSS_1 ((.exit 0), [o1, o4], st) =
  (resTup st o1).bind fun r => some (r, st.n) := by kernel_rfl

noncomputable def k_laws_markBoolSS_1i : XT × List AV × St → Option (AV × St) := resK L f_laws_markBoolSS.code [true, false, true] (inlK f_laws_markBoolSS.rs)

theorem inl_laws_markBoolSS (a0 : AV) (a1 : AV) (st : St) : L.inl i_laws_markBoolSS [a0, a1] st =
  (L.loop [0, 1, 5] [1, 4] b_laws_markBoolSS_1 [a0, a1, (.int .i64 0)] st).bind k_laws_markBoolSS_1i := (lim_inl F _ _ _).trans (by kernel_rfl)

theorem k_laws_markBoolSS_1i_0 (o1 : AV) (o4 : AV) (st : St) : k_laws_markBoolSS_1i ((.exit 0), [o1, o4], st) =
  some (o1, st) := by kernel_rfl

noncomputable def f_laws_heldBoolSS : IFn := (F i_laws_heldBoolSS).getD default

noncomputable def b_laws_heldBoolSS_1 : ICode := loopAt f_laws_heldBoolSS.code 0

noncomputable def k_laws_heldBoolSS_1 : XT × List AV × St → Option (AV × Nat) := resK L f_laws_heldBoolSS.code [true, false, true] (callK f_laws_heldBoolSS.rs)

theorem call_laws_heldBoolSS (a0 : AV) (a1 : AV) (n : Nat) : L.call i_laws_heldBoolSS [a0, a1] n =
  (L.loop [0, 1, 5] [1, 4] b_laws_heldBoolSS_1 [a0, a1, (.int .i64 0)] (st0 n)).bind k_laws_heldBoolSS_1 := (lim_call F _ _ _).trans (by kernel_rfl)

theorem loop_laws_heldBoolSS_1 (x0 : AV) (x1 : AV) (x5 : AV) (st : St) : L.loop [0, 1, 5] [1, 4] b_laws_heldBoolSS_1 [x0, x1, x5] st =
  (aLen x0).bind fun v8_1 =>
  (aBin .lss x5 v8_1).bind fun v9_2 =>
  cnd v9_2
  ((aIaddr 1 x0 x5).bind fun v14_3 =>
  (aLoad false 1 st v14_3).bind fun v15_4 =>
  (clV L i_laws_heldBoolS 0 [v15_4, x1] st).bind fun v17_5 =>
  (aBin .lss v17_5.1 (.int .i64 0)).bind fun v19_6 =>
  cnd v19_6
  (some (.ret, [v17_5.1, (.int .i64 (-1))], v17_5.2))
  ((aBin .add x5 (.int .i64 1)).bind fun v11_7 =>
  L.loop [0, 1, 5] [1, 4] b_laws_heldBoolSS_1 [x0, v17_5.1, v11_7] v17_5.2))
  (some ((.exit 0), [x1, .undef], st)) := (lim_loop F _ _ _ _ _).trans (by kernel_rfl)

theorem k_laws_heldBoolSS_1_ret (o1 : AV) (o4 : AV) (st : St) : k_laws_heldBoolSS_1 (.ret, [o1, o4], st) =
  (resTup st o4).bind fun r => some (r, st.n) := by kernel_rfl

theorem k_laws_heldBoolSS_1_0 (o1 : AV) (o4 : AV) (st : St) : k_laws_heldBoolSS_1 ((.exit 0), [o1, o4], st) =
  (resTup st o1).bind fun r => some (r, st.n) := by kernel_rfl

noncomputable def f_laws_szBoolS : IFn := (F i_laws_szBoolS).getD default

theorem call_laws_szBoolS (a0 : AV) (a1 : AV) (n : Nat) : L.call i_laws_szBoolS [a0, a1] n =
  (aLen a0).bind fun v7_1 =>
  (aBin .sub a1 v7_1).bind fun v8_2 =>
  (aBin .lss v8_2 (.int .i64 0)).bind fun v10_3 =>
  cnd v10_3
  ((resTup (st0 n) (.int .i64 (-1))).bind fun r => some (r, (st0 n).n))
  ((resTup (st0 n) v8_2).bind fun r => some (r, (st0 n).n)) := (lim_call F _ _ _).trans (by kernel_rfl)

noncomputable def f_laws_toBoolS : IFn := (F i_laws_toBoolS).getD default

noncomputable def b_laws_toBoolS_1 : ICode := loopAt f_laws_toBoolS.code 0

noncomputable def k_laws_toBoolS_1 : XT × List AV × St → Option (AV × Nat) := resK L f_laws_toBoolS.code [true, true, false, true] (callK f_laws_toBoolS.rs)

theorem call_laws_toBoolS (a0 : AV) (n : Nat) : L.call i_laws_toBoolS [a0] n =
  (aLen a0).bind fun v6_1 =>
  mkMake 1 (.bool false) v6_1 v6_1 (st0 n) fun v7_2 vs_3 =>
  (L.loop [0, 3, 4] [2, 3] b_laws_toBoolS_1 [a0, v7_2, (.int .i64 0)] vs_3).bind k_laws_toBoolS_1 := (lim_call F _ _ _).trans (by kernel_rfl)

theorem loop_laws_toBoolS_1 (x0 : AV) (x3 : AV) (x4 : AV) (st : St) : L.loop [0, 3, 4] [2, 3] b_laws_toBoolS_1 [x0, x3, x4] st =
  (aLen x0).bind fun v10_1 =>
  (aBin .lss x4 v10_1).bind fun v11_2 =>
  cnd v11_2
  ((aIaddr 1 x0 x4).bind fun v18_3 =>
  (aLoad false 1 st v18_3).bind fun v19_4 =>
  (aIaddr 1 x3 x4).bind fun v20_5 =>
  (aStore 1 v20_5 v19_4 st).bind fun vs_6 =>
  (aBin .add x4 (.int .i64 1)).bind fun v13_7 =>
  L.loop [0, 3, 4] [2, 3] b_laws_toBoolS_1 [x0, x3, v13_7] vs_6)
  (some ((.exit 0), [.undef, x3], st)) := (lim_loop F _ _ _ _ _).trans (by kernel_rfl)

theorem k_laws_toBoolS_1_0 (o2 : AV) (o3 : AV) (st : St) : k_laws_toBoolS_1 ((.exit 0), [o2, o3], st) =
  (resTup st o3).bind fun r => some (r, st.n) := by kernel_rfl

noncomputable def f_laws_eqBoolS : IFn := (F i_laws_eqBoolS).getD default

noncomputable def b_laws_eqBoolS_1 : ICode := loopAt f_laws_eqBoolS.code 0

noncomputable def k_laws_eqBoolS_1 : XT × List AV × St → Option (AV × Nat) := resK L f_laws_eqBoolS.code [true, true, false, true] (callK f_laws_eqBoolS.rs)

theorem call_laws_eqBoolS (a0 : AV) (a1 : AV) (n : Nat) : L.call i_laws_eqBoolS [a0, a1] n =
  (aLen a0).bind fun v7_1 =>
  (aLen a1).bind fun v9_2 =>
  (aBin .neq v7_1 v9_2).bind fun v10_3 =>
  cnd v10_3
  ((resTup (st0 n) (.bool false)).bind fun r => some (r, (st0 n).n))
  ((L.loop [0, 1, 5] [4] b_laws_eqBoolS_1 [a0, a1, (.int .i64 0)] (st0 n)).bind k_laws_eqBoolS_1) := (lim_call F _ _ _).trans (by kernel_rfl)

theorem loop_laws_eqBoolS_1 (x0 : AV) (x1 : AV) (x5 : AV) (st : St) : L.loop [0, 1, 5] [4] b_laws_eqBoolS_1 [x0, x1, x5] st =
  (aLen x0).bind fun v13_1 =>
  (aBin .lss x5 v13_1).bind fun v14_2 =>
  cnd v14_2
  ((aIaddr 1 x0 x5).bind fun v19_3 =>
  (aLoad false 1 st v19_3).bind fun v20_4 =>
  (aIaddr 1 x1 x5).bind fun v23_5 =>
  (aLoad false 1 st v23_5).bind fun v24_6 =>
  (aBinb .neq v20_4 v24_6).bind fun v25_7 =>
  cnd v25_7
  (some (.ret, [(.bool false)], st))
  ((aBin .add x5 (.int .i64 1)).bind fun v16_8 =>
  L.loop [0, 1, 5] [4] b_laws_eqBoolS_1 [x0, x1, v16_8] st))
  (some ((.exit 0), [.undef], st)) := (lim_loop F _ _ _ _ _).trans (by kernel_rfl)

theorem k_laws_eqBoolS_1_ret (o4 : AV) (st : St) : k_laws_eqBoolS_1 (.ret, [o4], st) =
  (resTup st o4).bind fun r => some (r, st.n) := by kernel_rfl

theorem k_laws_eqBoolS_1_0 (o4 : AV) (st : St) : k_laws_eqBoolS_1 ((.exit 0), [o4], st) =
  (resTup st (.bool true)).bind fun r => some (r, st.n) := by kernel_rfl

noncomputable def f_laws_markBoolS : IFn := (F i_laws_markBoolS).getD default

noncomputable def b_laws_markBoolS_1 : ICode := loopAt f_laws_markBoolS.code 0

noncomputable def k_laws_markBoolS_1 : XT × List AV × St → Option (AV × Nat) := resK L f_laws_markBoolS.code [true, false, true] (callK f_laws_markBoolS.rs)

theorem call_laws_markBoolS (a0 : AV) (a1 : AV) (n : Nat) : L.call i_laws_markBoolS [a0, a1] n =
  (L.loop [0, 1, 5] [1, 4] b_laws_markBoolS_1 [a0, a1, (.int .i64 0)] (st0 n)).bind k_laws_markBoolS_1 := (lim_call F _ _ _).trans (by kernel_rfl)

theorem loop_laws_markBoolS_1 (x0 : AV) (x1 : AV) (x5 : AV) (st : St) : L.loop [0, 1, 5] [1, 4] b_laws_markBoolS_1 [x0, x1, x5] st =
  (aLen x0).bind fun v8_1 =>
  (aBin .lss x5 v8_1).bind fun v9_2 =>
  cnd v9_2
  ((aBin .rem x1 (.int .i64 3)).bind fun v15_3 =>
  (aBin .eql v15_3 (.int .i64 0)).bind fun v16_4 =>
  (aIaddr 1 x0 x5).bind fun v17_5 =>
  (aStore 1 v17_5 v16_4 st).bind fun vs_6 =>
  (aBin .add x1 (.int .i64 1)).bind fun v19_7 =>
  (aBin .add x5 (.int .i64 1)).bind fun v11_8 =>
  L.loop [0, 1, 5] [1, 4] b_laws_markBoolS_1 [x0, v19_7, v11_8] vs_6)
  (some ((.exit 0), [x1, .undef], st)) := (lim_loop F _ _ _ _ _).trans (by kernel_rfl)

theorem k_laws_markBoolS_1_0 (o1 : AV) (o4 : AV) (st : St) : k_laws_markBoolS_1 ((.exit 0), [o1, o4], st) =
  (resTup st o1).bind fun r => some (r, st.n) := by kernel_rfl

noncomputable def k_laws_markBoolS_1i : XT × List AV × St → Option (AV × St) := resK L f_laws_markBoolS.code [true, false, true] (inlK f_laws_markBoolS.rs)

theorem inl_laws_markBoolS (a0 : AV) (a1 : AV) (st : St) : L.inl i_laws_markBoolS [a0, a1] st =
  (L.loop [0, 1, 5] [1, 4] b_laws_markBoolS_1 [a0, a1, (.int .i64 0)] st).bind k_laws_markBoolS_1i := (lim_inl F _ _ _).trans (by kernel_rfl)

theorem k_laws_markBoolS_1i_0 (o1 : AV) (o4 : AV) (st : St) : k_laws_markBoolS_1i ((.exit 0), [o1, o4], st) =
  some (o1, st) := by kernel_rfl

noncomputable def f_laws_heldBoolS : IFn := (F i_laws_heldBoolS).getD default

noncomputable def b_laws_heldBoolS_1 : ICode := loopAt f_laws_heldBoolS.code 0

noncomputable def k_laws_heldBoolS_1 : XT × List AV × St → Option (AV × Nat) := resK L f_laws_heldBoolS.code [true, false, true] (callK f_laws_heldBoolS.rs)

theorem call_laws_heldBoolS (a0 : AV) (a1 : AV) (n : Nat) : L.call i_laws_heldBoolS [a0, a1] n =
  (L.loop [0, 1, 5] [1, 4] b_laws_heldBoolS_1 [a0, a1, (.int .i64 0)] (st0 n)).bind k_laws_heldBoolS_1 := (lim_call F _ _ _).trans (by kernel_rfl)

theorem loop_laws_heldBoolS_1 (x0 : AV) (x1 : AV) (x5 : AV) (st : St) : L.loop [0, 1, 5] [1, 4] b_laws_heldBoolS_1 [x0, x1, x5] st =
  (aLen x0).bind fun v8_1 =>
  (aBin .lss x5 v8_1).bind fun v9_2 =>
  cnd v9_2
  ((aIaddr 1 x0 x5).bind fun v14_3 =>
  (aLoad false 1 st v14_3).bind fun v15_4 =>
  (aBin .rem x1 (.int .i64 3)).bind fun v17_5 =>
  (aBin .eql v17_5 (.int .i64 0)).bind fun v18_6 =>
  (aBinb .neq v15_4 v18_6).bind fun v19_7 =>
  cnd v19_7
  (some (.ret, [x1, (.int .i64 (-1))], st))
  ((aBin .add x1 (.int .i64 1)).bind fun v21_8 =>
  (aBin .add x5 (.int .i64 1)).bind fun v11_9 =>
  L.loop [0, 1, 5] [1, 4] b_laws_heldBoolS_1 [x0, v21_8, v11_9] st))
  (some ((.exit 0), [x1, .undef], st)) := (lim_loop F _ _ _ _ _).trans (by kernel_rfl)

theorem k_laws_heldBoolS_1_ret (o1 : AV) (o4 : AV) (st : St) : k_laws_heldBoolS_1 (.ret, [o1, o4], st) =
  (resTup st o4).bind fun r => some (r, st.n) := by kernel_rfl

theorem k_laws_heldBoolS_1_0 (o1 : AV) (o4 : AV) (st : St) : k_laws_heldBoolS_1 ((.exit 0), [o1, o4], st) =
  (resTup st o1).bind fun r => some (r, st.n) := by kernel_rfl

end Go.Proofs.YtilbmpdeginabaaFw
