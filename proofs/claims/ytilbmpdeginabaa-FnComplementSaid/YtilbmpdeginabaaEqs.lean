/- The equations of the seat's functions, printed out of its code. Conditions: none beside each theorem's own. -/
import Derived.Test.YtilbmpdeginabaaEq
namespace Go.Proofs.YtilbmpdeginabaaFw
open Go
set_option maxRecDepth 20000
set_option linter.unusedVariables false

abbrev i_laws_FnComplement : Nat := 6
abbrev i_impl_IsGraph : Nat := 15
abbrev i_spec_MakeGraph : Nat := 20
abbrev i_impl_ComplementGraph : Nat := 21
abbrev i_impl_MaxClique : Nat := 22
abbrev i_laws_hasInt : Nat := 23
abbrev i_spec_l22Draw : Nat := 40
abbrev i_spec_l01New : Nat := 41
abbrev i_impl_vertexSets : Nat := 42
abbrev i_impl_allAdjacent : Nat := 43
abbrev i_spec_l01Below : Nat := 51
abbrev i_spec_l01Once : Nat := 52
abbrev i_spec_l01Byte : Nat := 55
abbrev zc_nii : AV := (.agg [.nils, (.int .i64 0), (.int .i64 0)])

noncomputable def f_laws_FnComplement : IFn := (F i_laws_FnComplement).getD default

noncomputable def b_laws_FnComplement_1 : ICode := loopAt f_laws_FnComplement.code 0

noncomputable def b_laws_FnComplement_2 : ICode := loopAt f_laws_FnComplement.code 1

noncomputable def b_laws_FnComplement_3 : ICode := loopAt f_laws_FnComplement.code 2

noncomputable def k_laws_FnComplement_1 : XT × List AV × St → Option (AV × Nat) := resK L f_laws_FnComplement.code [true, true, true, true, true, true, false, true] (callK f_laws_FnComplement.rs)

noncomputable def k_laws_FnComplement_2 : XT × List AV × St → Option (XT × List AV × St) := resK L b_laws_FnComplement_1 [true, true, false, true, true, true] (loopK L [3, 4, 5, 38, 39] [2, 3, 4] b_laws_FnComplement_1)

noncomputable def k_laws_FnComplement_3 : XT × List AV × St → Option (AV × Nat) := resK L f_laws_FnComplement.code [true, true, true, true, true, true, true, true, false, true] (callK f_laws_FnComplement.rs)

theorem call_laws_FnComplement (a0 : AV) (n : Nat) : L.call i_laws_FnComplement [a0] n =
  (aLen a0).bind fun v12_1 =>
  (aBin .gtr v12_1 (.int .i64 1048576)).bind fun v13_2 =>
  cnd v13_2
  ((resTup (st0 n) (.bool true)).bind fun r => some (r, (st0 n).n))
  ((clV L i_spec_MakeGraph 0 [a0] (st0 n)).bind fun v15_3 =>
  (clV L i_impl_ComplementGraph 0 [v15_3.1] v15_3.2).bind fun v17_4 =>
  (clV L i_impl_ComplementGraph 0 [v17_4.1] v17_4.2).bind fun v19_5 =>
  (clV L i_impl_IsGraph 0 [v15_3.1] v19_5.2).bind fun v21_6 =>
  (aUn .not v21_6.1).bind fun v22_7 =>
  cnd v22_7
  ((resTup v21_6.2 (.bool false)).bind fun r => some (r, v21_6.2.n))
  ((aLen v17_4.1).bind fun v25_8 =>
  (aLen v15_3.1).bind fun v27_9 =>
  (aBin .neq v25_8 v27_9).bind fun v28_10 =>
  cnd v28_10
  ((resTup v21_6.2 (.bool false)).bind fun r => some (r, v21_6.2.n))
  ((aLen v19_5.1).bind fun v32_11 =>
  (aLen v15_3.1).bind fun v34_12 =>
  (aBin .neq v32_11 v34_12).bind fun v35_13 =>
  cnd v35_13
  ((resTup v21_6.2 (.bool false)).bind fun r => some (r, v21_6.2.n))
  ((aLen v15_3.1).bind fun v38_14 =>
  (L.loop [3, 4, 5, 38, 39] [2, 3, 4] b_laws_FnComplement_1 [v15_3.1, v17_4.1, v19_5.1, v38_14, (.int .i64 0)] v21_6.2).bind k_laws_FnComplement_1)))) := (lim_call F _ _ _).trans (by kernel_rfl)

theorem loop_laws_FnComplement_1 (x3 : AV) (x4 : AV) (x5 : AV) (x38 : AV) (x39 : AV) (st : St) : L.loop [3, 4, 5, 38, 39] [2, 3, 4] b_laws_FnComplement_1 [x3, x4, x5, x38, x39] st =
  (aBin .lss x39 x38).bind fun v40_1 =>
  cnd v40_1
  ((aIaddr 1 x5 x39).bind fun v44_2 =>
  (aLoad false 1 st v44_2).bind fun v45_3 =>
  (aLen v45_3).bind fun v46_4 =>
  (aLen x3).bind fun v48_5 =>
  (aBin .neq v46_4 v48_5).bind fun v49_6 =>
  cnd v49_6
  (some (.ret, [(.bool false), x3, x4], st))
  ((aLen x3).bind fun v51_7 =>
  (L.loop [3, 4, 5, 6, 38, 39, 51, 52] [2, 3, 4, 5, 38, 39] b_laws_FnComplement_2 [x3, x4, x5, x39, x38, x39, v51_7, (.int .i64 0)] st).bind k_laws_FnComplement_2))
  (some ((.exit 0), [.undef, x3, x4], st)) := (lim_loop F _ _ _ _ _).trans (by kernel_rfl)

theorem loop_laws_FnComplement_2 (x3 : AV) (x4 : AV) (x5 : AV) (x6 : AV) (x38 : AV) (x39 : AV) (x51 : AV) (x52 : AV) (st : St) : L.loop [3, 4, 5, 6, 38, 39, 51, 52] [2, 3, 4, 5, 38, 39] b_laws_FnComplement_2 [x3, x4, x5, x6, x38, x39, x51, x52] st =
  (aBin .lss x52 x51).bind fun v53_1 =>
  cnd v53_1
  ((aIaddr 1 x3 x6).bind fun v57_2 =>
  (aLoad false 1 st v57_2).bind fun v58_3 =>
  (aIaddr 1 v58_3 x52).bind fun v60_4 =>
  (aLoad false 1 st v60_4).bind fun v61_5 =>
  (aIaddr 1 x5 x6).bind fun v64_6 =>
  (aLoad false 1 st v64_6).bind fun v65_7 =>
  (aIaddr 1 v65_7 x52).bind fun v67_8 =>
  (aLoad false 1 st v67_8).bind fun v68_9 =>
  (aBinb .neq v61_5 v68_9).bind fun v69_10 =>
  cnd v69_10
  (some (.ret, [(.bool false), x3, x4, x5, x38, x39], st))
  ((aBin .add x52 (.int .i64 1)).bind fun v70_11 =>
  L.loop [3, 4, 5, 6, 38, 39, 51, 52] [2, 3, 4, 5, 38, 39] b_laws_FnComplement_2 [x3, x4, x5, x6, x38, x39, x51, v70_11] st))
  (some ((.exit 2), [.undef, x3, x4, x5, x38, x39], st)) := (lim_loop F _ _ _ _ _).trans (by kernel_rfl)

theorem loop_laws_FnComplement_3 (x3 : AV) (x8 : AV) (x73 : AV) (x74 : AV) (x75 : AV) (st : St) : L.loop [3, 8, 73, 74, 75] [2, 8] b_laws_FnComplement_3 [x3, x8, x73, x74, x75] st =
  (aBin .lss x75 x74).bind fun v76_1 =>
  cnd v76_1
  ((aIaddr 1 x73 x75).bind fun v77_2 =>
  (aLoad false 1 st v77_2).bind fun v78_3 =>
  (clV L i_impl_MaxClique 0 [x3] st).bind fun v80_4 =>
  (clV L i_laws_hasInt 0 [v80_4.1, v78_3] v80_4.2).bind fun v82_5 =>
  cnd v82_5.1
  ((aBin .add x8 (.int .i64 1)).bind fun v84_6 =>
  (aBin .add x75 (.int .i64 1)).bind fun v85_7 =>
  L.loop [3, 8, 73, 74, 75] [2, 8] b_laws_FnComplement_3 [x3, v84_6, x73, x74, v85_7] v82_5.2)
  ((aBin .add x75 (.int .i64 1)).bind fun v85_8 =>
  L.loop [3, 8, 73, 74, 75] [2, 8] b_laws_FnComplement_3 [x3, x8, x73, x74, v85_8] v82_5.2))
  (some ((.exit 4), [.undef, x8], st)) := (lim_loop F _ _ _ _ _).trans (by kernel_rfl)

theorem k_laws_FnComplement_1_ret (o2 : AV) (o3 : AV) (o4 : AV) (st : St) : k_laws_FnComplement_1 (.ret, [o2, o3, o4], st) =
  (resTup st o2).bind fun r => some (r, st.n) := by kernel_rfl

theorem k_laws_FnComplement_1_0 (o2 : AV) (o3 : AV) (o4 : AV) (st : St) : k_laws_FnComplement_1 ((.exit 0), [o2, o3, o4], st) =
  (clV L i_impl_MaxClique 0 [o4] st).bind fun v73_1 =>
  (aLen v73_1.1).bind fun v74_2 =>
  (L.loop [3, 8, 73, 74, 75] [2, 8] b_laws_FnComplement_3 [o3, (.int .i64 0), v73_1.1, v74_2, (.int .i64 0)] v73_1.2).bind k_laws_FnComplement_3 := by kernel_rfl

theorem k_laws_FnComplement_2_ret (o2 : AV) (o3 : AV) (o4 : AV) (o5 : AV) (o38 : AV) (o39 : AV) (st : St) : k_laws_FnComplement_2 (.ret, [o2, o3, o4, o5, o38, o39], st) =
  some (.ret, [o2, o3, o4], st) := by kernel_rfl

theorem k_laws_FnComplement_2_2 (o2 : AV) (o3 : AV) (o4 : AV) (o5 : AV) (o38 : AV) (o39 : AV) (st : St) : k_laws_FnComplement_2 ((.exit 2), [o2, o3, o4, o5, o38, o39], st) =
  (aBin .add o39 (.int .i64 1)).bind fun v71_1 =>
  L.loop [3, 4, 5, 38, 39] [2, 3, 4] b_laws_FnComplement_1 [o3, o4, o5, o38, v71_1] st := by kernel_rfl

theorem k_laws_FnComplement_3_4 (o2 : AV) (o8 : AV) (st : St) : k_laws_FnComplement_3 ((.exit 4), [o2, o8], st) =
  (aBin .leq o8 (.int .i64 1)).bind fun v87_1 =>
  (resTup st v87_1).bind fun r => some (r, st.n) := by kernel_rfl

noncomputable def f_impl_IsGraph : IFn := (F i_impl_IsGraph).getD default

noncomputable def b_impl_IsGraph_1 : ICode := loopAt f_impl_IsGraph.code 0

noncomputable def b_impl_IsGraph_2 : ICode := loopAt f_impl_IsGraph.code 1

noncomputable def b_impl_IsGraph_3 : ICode := loopAt f_impl_IsGraph.code 2

noncomputable def k_impl_IsGraph_1 : XT × List AV × St → Option (AV × Nat) := resK L f_impl_IsGraph.code [true, true, true, false, true] (callK f_impl_IsGraph.rs)

noncomputable def k_impl_IsGraph_2 : XT × List AV × St → Option (AV × Nat) := resK L f_impl_IsGraph.code [true, true, true, true, false, true] (callK f_impl_IsGraph.rs)

noncomputable def k_impl_IsGraph_3 : XT × List AV × St → Option (XT × List AV × St) := resK L b_impl_IsGraph_2 [true, true, false, true, true] (loopK L [0, 25, 26, 27] [2] b_impl_IsGraph_2)

theorem call_impl_IsGraph (a0 : AV) (n : Nat) : L.call i_impl_IsGraph [a0] n =
  (aLen a0).bind fun v11_1 =>
  (aBin .gtr v11_1 (.int .i64 12)).bind fun v13_2 =>
  cnd v13_2
  ((resTup (st0 n) (.bool false)).bind fun r => some (r, (st0 n).n))
  ((aLen a0).bind fun v15_3 =>
  (L.loop [0, 3, 14, 15, 16] [0, 2] b_impl_IsGraph_1 [a0, v11_1, a0, v15_3, (.int .i64 0)] (st0 n)).bind k_impl_IsGraph_1) := (lim_call F _ _ _).trans (by kernel_rfl)

theorem loop_impl_IsGraph_1 (x0 : AV) (x3 : AV) (x14 : AV) (x15 : AV) (x16 : AV) (st : St) : L.loop [0, 3, 14, 15, 16] [0, 2] b_impl_IsGraph_1 [x0, x3, x14, x15, x16] st =
  (aBin .lss x16 x15).bind fun v17_1 =>
  cnd v17_1
  ((aIaddr 1 x14 x16).bind fun v18_2 =>
  (aLoad false 1 st v18_2).bind fun v19_3 =>
  (aLen v19_3).bind fun v21_4 =>
  (aBin .neq v21_4 x3).bind fun v23_5 =>
  cnd v23_5
  (some (.ret, [x0, (.bool false)], st))
  ((aBin .add x16 (.int .i64 1)).bind fun v24_6 =>
  L.loop [0, 3, 14, 15, 16] [0, 2] b_impl_IsGraph_1 [x0, x3, x14, x15, v24_6] st))
  (some ((.exit 0), [x0, .undef], st)) := (lim_loop F _ _ _ _ _).trans (by kernel_rfl)

theorem loop_impl_IsGraph_2 (x0 : AV) (x25 : AV) (x26 : AV) (x27 : AV) (st : St) : L.loop [0, 25, 26, 27] [2] b_impl_IsGraph_2 [x0, x25, x26, x27] st =
  (aBin .lss x27 x26).bind fun v28_1 =>
  cnd v28_1
  ((aIaddr 1 x25 x27).bind fun v30_2 =>
  (aLoad false 1 st v30_2).bind fun v31_3 =>
  (aLen v31_3).bind fun v33_4 =>
  (L.loop [0, 6, 25, 26, 27, 32, 33, 34] [0, 2, 25, 26, 27] b_impl_IsGraph_3 [x0, x27, x25, x26, x27, v31_3, v33_4, (.int .i64 0)] st).bind k_impl_IsGraph_3)
  (some ((.exit 2), [.undef], st)) := (lim_loop F _ _ _ _ _).trans (by kernel_rfl)

theorem loop_impl_IsGraph_3 (x0 : AV) (x6 : AV) (x25 : AV) (x26 : AV) (x27 : AV) (x32 : AV) (x33 : AV) (x34 : AV) (st : St) : L.loop [0, 6, 25, 26, 27, 32, 33, 34] [0, 2, 25, 26, 27] b_impl_IsGraph_3 [x0, x6, x25, x26, x27, x32, x33, x34] st =
  (aBin .lss x34 x33).bind fun v35_1 =>
  cnd v35_1
  ((aIaddr 1 x32 x34).bind fun v37_2 =>
  (aLoad false 1 st v37_2).bind fun v38_3 =>
  cnd v38_3
  ((aBin .eql x6 x34).bind fun v43_4 =>
  cnd v43_4
  (some (.ret, [x0, (.bool false), x25, x26, x27], st))
  ((aIaddr 1 x0 x34).bind fun v49_5 =>
  (aLoad false 1 st v49_5).bind fun v50_6 =>
  (aIaddr 1 v50_6 x6).bind fun v52_7 =>
  (aLoad false 1 st v52_7).bind fun v53_8 =>
  (aBinb .neq v38_3 v53_8).bind fun v54_9 =>
  cnd v54_9
  (some (.ret, [x0, (.bool false), x25, x26, x27], st))
  ((aBin .add x34 (.int .i64 1)).bind fun v56_10 =>
  L.loop [0, 6, 25, 26, 27, 32, 33, 34] [0, 2, 25, 26, 27] b_impl_IsGraph_3 [x0, x6, x25, x26, x27, x32, x33, v56_10] st)))
  ((aIaddr 1 x0 x34).bind fun v49_11 =>
  (aLoad false 1 st v49_11).bind fun v50_12 =>
  (aIaddr 1 v50_12 x6).bind fun v52_13 =>
  (aLoad false 1 st v52_13).bind fun v53_14 =>
  (aBinb .neq v38_3 v53_14).bind fun v54_15 =>
  cnd v54_15
  (some (.ret, [x0, (.bool false), x25, x26, x27], st))
  ((aBin .add x34 (.int .i64 1)).bind fun v56_16 =>
  L.loop [0, 6, 25, 26, 27, 32, 33, 34] [0, 2, 25, 26, 27] b_impl_IsGraph_3 [x0, x6, x25, x26, x27, x32, x33, v56_16] st)))
  (some ((.exit 4), [x0, .undef, x25, x26, x27], st)) := (lim_loop F _ _ _ _ _).trans (by kernel_rfl)

theorem k_impl_IsGraph_1_ret (o0 : AV) (o2 : AV) (st : St) : k_impl_IsGraph_1 (.ret, [o0, o2], st) =
  (resTup st o2).bind fun r => some (r, st.n) := by kernel_rfl

theorem k_impl_IsGraph_1_0 (o0 : AV) (o2 : AV) (st : St) : k_impl_IsGraph_1 ((.exit 0), [o0, o2], st) =
  (aLen o0).bind fun v26_1 =>
  (L.loop [0, 25, 26, 27] [2] b_impl_IsGraph_2 [o0, o0, v26_1, (.int .i64 0)] st).bind k_impl_IsGraph_2 := by kernel_rfl

theorem k_impl_IsGraph_2_ret (o2 : AV) (st : St) : k_impl_IsGraph_2 (.ret, [o2], st) =
  (resTup st o2).bind fun r => some (r, st.n) := by kernel_rfl

theorem k_impl_IsGraph_2_2 (o2 : AV) (st : St) : k_impl_IsGraph_2 ((.exit 2), [o2], st) =
  (resTup st (.bool true)).bind fun r => some (r, st.n) := by kernel_rfl

theorem k_impl_IsGraph_3_ret (o0 : AV) (o2 : AV) (o25 : AV) (o26 : AV) (o27 : AV) (st : St) : k_impl_IsGraph_3 (.ret, [o0, o2, o25, o26, o27], st) =
  some (.ret, [o2], st) := by kernel_rfl

theorem k_impl_IsGraph_3_4 (o0 : AV) (o2 : AV) (o25 : AV) (o26 : AV) (o27 : AV) (st : St) : k_impl_IsGraph_3 ((.exit 4), [o0, o2, o25, o26, o27], st) =
  (aBin .add o27 (.int .i64 1)).bind fun v57_1 =>
  L.loop [0, 25, 26, 27] [2] b_impl_IsGraph_2 [o0, o25, o26, v57_1] st := by kernel_rfl

noncomputable def f_spec_MakeGraph : IFn := (F i_spec_MakeGraph).getD default

theorem call_spec_MakeGraph (a0 : AV) (n : Nat) : L.call i_spec_MakeGraph [a0] n =
  (L.inl i_spec_l01New [a0] (st0 n)).bind fun v4_1 =>
  (L.inl i_spec_l22Draw [v4_1.1] v4_1.2).bind fun v5_2 =>
  (resTup v5_2.2 v5_2.1).bind fun r => some (r, v5_2.2.n) := (lim_call F _ _ _).trans (by kernel_rfl)

noncomputable def f_impl_ComplementGraph : IFn := (F i_impl_ComplementGraph).getD default

noncomputable def b_impl_ComplementGraph_1 : ICode := loopAt f_impl_ComplementGraph.code 0

noncomputable def b_impl_ComplementGraph_2 : ICode := loopAt f_impl_ComplementGraph.code 1

noncomputable def k_impl_ComplementGraph_1 : XT × List AV × St → Option (AV × Nat) := resK L f_impl_ComplementGraph.code [true, true, true, false, true] (callK f_impl_ComplementGraph.rs)

noncomputable def k_impl_ComplementGraph_2 : XT × List AV × St → Option (XT × List AV × St) := resK L b_impl_ComplementGraph_1 [true, true, false, true, true, false, true] (loopK L [3, 13, 14, 15] [2, 3] b_impl_ComplementGraph_1)

theorem call_impl_ComplementGraph (a0 : AV) (n : Nat) : L.call i_impl_ComplementGraph [a0] n =
  (clV L i_impl_IsGraph 0 [a0] (st0 n)).bind fun v10_1 =>
  (aUn .not v10_1.1).bind fun v11_2 =>
  cnd v11_2
  ((resTup v10_1.2 .nils).bind fun r => some (r, v10_1.2.n))
  (mkLit 0 1 .nils [] v10_1.2 fun v12_3 vs_4 =>
  (aLen a0).bind fun v14_5 =>
  (L.loop [3, 13, 14, 15] [2, 3] b_impl_ComplementGraph_1 [v12_3, a0, v14_5, (.int .i64 0)] vs_4).bind k_impl_ComplementGraph_1) := (lim_call F _ _ _).trans (by kernel_rfl)

theorem loop_impl_ComplementGraph_1 (x3 : AV) (x13 : AV) (x14 : AV) (x15 : AV) (st : St) : L.loop [3, 13, 14, 15] [2, 3] b_impl_ComplementGraph_1 [x3, x13, x14, x15] st =
  (aBin .lss x15 x14).bind fun v16_1 =>
  cnd v16_1
  ((aIaddr 1 x13 x15).bind fun v18_2 =>
  (aLoad false 1 st v18_2).bind fun v19_3 =>
  mkLit 0 1 (.bool false) [] st fun v20_4 vs_5 =>
  (aLen v19_3).bind fun v22_6 =>
  (L.loop [3, 4, 6, 13, 14, 15, 21, 22, 23] [2, 3, 6, 13, 14, 15] b_impl_ComplementGraph_2 [x3, x15, v20_4, x13, x14, x15, v19_3, v22_6, (.int .i64 0)] vs_5).bind k_impl_ComplementGraph_2)
  (some ((.exit 0), [.undef, x3], st)) := (lim_loop F _ _ _ _ _).trans (by kernel_rfl)

theorem loop_impl_ComplementGraph_2 (x3 : AV) (x4 : AV) (x6 : AV) (x13 : AV) (x14 : AV) (x15 : AV) (x21 : AV) (x22 : AV) (x23 : AV) (st : St) : L.loop [3, 4, 6, 13, 14, 15, 21, 22, 23] [2, 3, 6, 13, 14, 15] b_impl_ComplementGraph_2 [x3, x4, x6, x13, x14, x15, x21, x22, x23] st =
  (aBin .lss x23 x22).bind fun v24_1 =>
  cnd v24_1
  ((aIaddr 1 x21 x23).bind fun v26_2 =>
  (aLoad false 1 st v26_2).bind fun v27_3 =>
  (aBin .neq x4 x23).bind fun v31_4 =>
  cnd v31_4
  ((aUn .not v27_3).bind fun v34_5 =>
  mkLit 1 1 (.bool false) [(0, v34_5)] st fun v36_6 vs_7 =>
  (aApp 1 x6 v36_6 vs_7).bind fun v37_8 =>
  (aBin .add x23 (.int .i64 1)).bind fun v38_9 =>
  L.loop [3, 4, 6, 13, 14, 15, 21, 22, 23] [2, 3, 6, 13, 14, 15] b_impl_ComplementGraph_2 [x3, x4, v37_8.1, x13, x14, x15, x21, x22, v38_9] v37_8.2)
  (mkLit 1 1 (.bool false) [(0, (.bool false))] st fun v36_10 vs_11 =>
  (aApp 1 x6 v36_10 vs_11).bind fun v37_12 =>
  (aBin .add x23 (.int .i64 1)).bind fun v38_13 =>
  L.loop [3, 4, 6, 13, 14, 15, 21, 22, 23] [2, 3, 6, 13, 14, 15] b_impl_ComplementGraph_2 [x3, x4, v37_12.1, x13, x14, x15, x21, x22, v38_13] v37_12.2))
  (some ((.exit 2), [.undef, x3, x6, x13, x14, x15], st)) := (lim_loop F _ _ _ _ _).trans (by kernel_rfl)

theorem k_impl_ComplementGraph_1_0 (o2 : AV) (o3 : AV) (st : St) : k_impl_ComplementGraph_1 ((.exit 0), [o2, o3], st) =
  (resTup st o3).bind fun r => some (r, st.n) := by kernel_rfl

theorem k_impl_ComplementGraph_2_2 (o2 : AV) (o3 : AV) (o6 : AV) (o13 : AV) (o14 : AV) (o15 : AV) (st : St) : k_impl_ComplementGraph_2 ((.exit 2), [o2, o3, o6, o13, o14, o15], st) =
  mkLit 1 1 .nils [(0, o6)] st fun v41_1 vs_2 =>
  (aApp 1 o3 v41_1 vs_2).bind fun v42_3 =>
  (aBin .add o15 (.int .i64 1)).bind fun v43_4 =>
  L.loop [3, 13, 14, 15] [2, 3] b_impl_ComplementGraph_1 [v42_3.1, o13, o14, v43_4] v42_3.2 := by kernel_rfl

noncomputable def f_impl_MaxClique : IFn := (F i_impl_MaxClique).getD default

noncomputable def b_impl_MaxClique_1 : ICode := loopAt f_impl_MaxClique.code 0

noncomputable def k_impl_MaxClique_1 : XT × List AV × St → Option (AV × Nat) := resK L f_impl_MaxClique.code [true, true, true, false, true] (callK f_impl_MaxClique.rs)

theorem call_impl_MaxClique (a0 : AV) (n : Nat) : L.call i_impl_MaxClique [a0] n =
  (clV L i_impl_IsGraph 0 [a0] (st0 n)).bind fun v7_1 =>
  (aUn .not v7_1.1).bind fun v8_2 =>
  cnd v8_2
  ((resTup v7_1.2 .nils).bind fun r => some (r, v7_1.2.n))
  (mkLit 0 1 (.int .i64 0) [] v7_1.2 fun v9_3 vs_4 =>
  (aLen a0).bind fun v11_5 =>
  (clV L i_impl_vertexSets 0 [v11_5] vs_4).bind fun v12_6 =>
  (aLen v12_6.1).bind fun v13_7 =>
  (L.loop [0, 3, 12, 13, 14] [2, 3] b_impl_MaxClique_1 [a0, v9_3, v12_6.1, v13_7, (.int .i64 0)] v12_6.2).bind k_impl_MaxClique_1) := (lim_call F _ _ _).trans (by kernel_rfl)

theorem loop_impl_MaxClique_1 (x0 : AV) (x3 : AV) (x12 : AV) (x13 : AV) (x14 : AV) (st : St) : L.loop [0, 3, 12, 13, 14] [2, 3] b_impl_MaxClique_1 [x0, x3, x12, x13, x14] st =
  (aBin .lss x14 x13).bind fun v15_1 =>
  cnd v15_1
  ((aIaddr 1 x12 x14).bind fun v16_2 =>
  (aLoad false 1 st v16_2).bind fun v17_3 =>
  (aLen v17_3).bind fun v19_4 =>
  (aLen x3).bind fun v21_5 =>
  (aBin .gtr v19_4 v21_5).bind fun v22_6 =>
  cnd v22_6
  ((clV L i_impl_allAdjacent 0 [x0, v17_3] st).bind fun v26_7 =>
  cnd v26_7.1
  ((aBin .add x14 (.int .i64 1)).bind fun v29_8 =>
  L.loop [0, 3, 12, 13, 14] [2, 3] b_impl_MaxClique_1 [x0, v17_3, x12, x13, v29_8] v26_7.2)
  ((aBin .add x14 (.int .i64 1)).bind fun v29_9 =>
  L.loop [0, 3, 12, 13, 14] [2, 3] b_impl_MaxClique_1 [x0, x3, x12, x13, v29_9] v26_7.2))
  ((aBin .add x14 (.int .i64 1)).bind fun v29_10 =>
  L.loop [0, 3, 12, 13, 14] [2, 3] b_impl_MaxClique_1 [x0, x3, x12, x13, v29_10] st))
  (some ((.exit 0), [.undef, x3], st)) := (lim_loop F _ _ _ _ _).trans (by kernel_rfl)

theorem k_impl_MaxClique_1_0 (o2 : AV) (o3 : AV) (st : St) : k_impl_MaxClique_1 ((.exit 0), [o2, o3], st) =
  (resTup st o3).bind fun r => some (r, st.n) := by kernel_rfl

noncomputable def f_laws_hasInt : IFn := (F i_laws_hasInt).getD default

noncomputable def b_laws_hasInt_1 : ICode := loopAt f_laws_hasInt.code 0

noncomputable def k_laws_hasInt_1 : XT × List AV × St → Option (AV × Nat) := resK L f_laws_hasInt.code [true, false, true] (callK f_laws_hasInt.rs)

theorem call_laws_hasInt (a0 : AV) (a1 : AV) (n : Nat) : L.call i_laws_hasInt [a0, a1] n =
  (aLen a0).bind fun v8_1 =>
  (L.loop [1, 7, 8, 9] [4] b_laws_hasInt_1 [a1, a0, v8_1, (.int .i64 0)] (st0 n)).bind k_laws_hasInt_1 := (lim_call F _ _ _).trans (by kernel_rfl)

theorem loop_laws_hasInt_1 (x1 : AV) (x7 : AV) (x8 : AV) (x9 : AV) (st : St) : L.loop [1, 7, 8, 9] [4] b_laws_hasInt_1 [x1, x7, x8, x9] st =
  (aBin .lss x9 x8).bind fun v10_1 =>
  cnd v10_1
  ((aIaddr 1 x7 x9).bind fun v11_2 =>
  (aLoad false 1 st v11_2).bind fun v12_3 =>
  (aBin .eql v12_3 x1).bind fun v15_4 =>
  cnd v15_4
  (some (.ret, [(.bool true)], st))
  ((aBin .add x9 (.int .i64 1)).bind fun v16_5 =>
  L.loop [1, 7, 8, 9] [4] b_laws_hasInt_1 [x1, x7, x8, v16_5] st))
  (some ((.exit 0), [.undef], st)) := (lim_loop F _ _ _ _ _).trans (by kernel_rfl)

theorem k_laws_hasInt_1_ret (o4 : AV) (st : St) : k_laws_hasInt_1 (.ret, [o4], st) =
  (resTup st o4).bind fun r => some (r, st.n) := by kernel_rfl

theorem k_laws_hasInt_1_0 (o4 : AV) (st : St) : k_laws_hasInt_1 ((.exit 0), [o4], st) =
  (resTup st (.bool false)).bind fun r => some (r, st.n) := by kernel_rfl

noncomputable def f_spec_l22Draw : IFn := (F i_spec_l22Draw).getD default

noncomputable def b_spec_l22Draw_1 : ICode := loopAt f_spec_l22Draw.code 0

noncomputable def b_spec_l22Draw_2 : ICode := loopAt f_spec_l22Draw.code 1

noncomputable def b_spec_l22Draw_3 : ICode := loopAt f_spec_l22Draw.code 2

noncomputable def k_spec_l22Draw_1 : XT × List AV × St → Option (AV × Nat) := resK L f_spec_l22Draw.code [true, true, true, true, false, true] (callK f_spec_l22Draw.rs)

noncomputable def k_spec_l22Draw_2 : XT × List AV × St → Option (AV × Nat) := resK L f_spec_l22Draw.code [true, true, true, true, true, false, true] (callK f_spec_l22Draw.rs)

noncomputable def k_spec_l22Draw_3 : XT × List AV × St → Option (XT × List AV × St) := resK L b_spec_l22Draw_2 [true, true, false, true, true] (loopK L [0, 4, 25, 26] [2, 4] b_spec_l22Draw_2)

theorem loop_spec_l22Draw_1 (x0 : AV) (x3 : AV) (x4 : AV) (x5 : AV) (st : St) : L.loop [0, 3, 4, 5] [0, 2, 4] b_spec_l22Draw_1 [x0, x3, x4, x5] st =
  (aBin .lss x5 x3).bind fun v16_1 =>
  cnd v16_1
  (mkMake 1 (.bool false) x3 x3 st fun v21_2 vs_3 =>
  mkLit 1 1 .nils [(0, v21_2)] vs_3 fun v22_4 vs_5 =>
  (aApp 1 x4 v22_4 vs_5).bind fun v23_6 =>
  (aBin .add x5 (.int .i64 1)).bind fun v18_7 =>
  L.loop [0, 3, 4, 5] [0, 2, 4] b_spec_l22Draw_1 [x0, x3, v23_6.1, v18_7] v23_6.2)
  (some ((.exit 0), [x0, .undef, x4], st)) := (lim_loop F _ _ _ _ _).trans (by kernel_rfl)

theorem loop_spec_l22Draw_2 (x0 : AV) (x4 : AV) (x25 : AV) (x26 : AV) (st : St) : L.loop [0, 4, 25, 26] [2, 4] b_spec_l22Draw_2 [x0, x4, x25, x26] st =
  (aBin .lss x26 x25).bind fun v27_1 =>
  cnd v27_1
  ((aSlc 1 x4 none (some x26)).bind fun v31_2 =>
  (aLen v31_2).bind fun v32_3 =>
  (L.loop [0, 4, 6, 25, 26, 32, 33] [0, 2, 4, 25, 26] b_spec_l22Draw_3 [x0, x4, x26, x25, x26, v32_3, (.int .i64 0)] st).bind k_spec_l22Draw_3)
  (some ((.exit 2), [.undef, x4], st)) := (lim_loop F _ _ _ _ _).trans (by kernel_rfl)

theorem loop_spec_l22Draw_3 (x0 : AV) (x4 : AV) (x6 : AV) (x25 : AV) (x26 : AV) (x32 : AV) (x33 : AV) (st : St) : L.loop [0, 4, 6, 25, 26, 32, 33] [0, 2, 4, 25, 26] b_spec_l22Draw_3 [x0, x4, x6, x25, x26, x32, x33] st =
  (aBin .lss x33 x32).bind fun v34_1 =>
  cnd v34_1
  ((L.inl i_spec_l01Once [x0, (.int .i64 3)] st).bind fun v37_2 =>
  (aUn .not v37_2.1).bind fun v38_3 =>
  (aIaddr 1 x4 x6).bind fun v41_4 =>
  (aLoad false 1 v37_2.2 v41_4).bind fun v42_5 =>
  (aIaddr 1 v42_5 x33).bind fun v45_6 =>
  (aStore 1 v45_6 v38_3 v37_2.2).bind fun vs_7 =>
  (aIaddr 1 x4 x33).bind fun v48_8 =>
  (aLoad false 1 vs_7 v48_8).bind fun v49_9 =>
  (aIaddr 1 v49_9 x6).bind fun v52_10 =>
  (aStore 1 v52_10 v38_3 vs_7).bind fun vs_11 =>
  (aBin .add x33 (.int .i64 1)).bind fun v53_12 =>
  L.loop [0, 4, 6, 25, 26, 32, 33] [0, 2, 4, 25, 26] b_spec_l22Draw_3 [x0, x4, x6, x25, x26, x32, v53_12] vs_11)
  (some ((.exit 4), [x0, .undef, x4, x25, x26], st)) := (lim_loop F _ _ _ _ _).trans (by kernel_rfl)

theorem k_spec_l22Draw_3_4 (o0 : AV) (o2 : AV) (o4 : AV) (o25 : AV) (o26 : AV) (st : St) : k_spec_l22Draw_3 ((.exit 4), [o0, o2, o4, o25, o26], st) =
  (aBin .add o26 (.int .i64 1)).bind fun v54_1 =>
  L.loop [0, 4, 25, 26] [2, 4] b_spec_l22Draw_2 [o0, o4, o25, v54_1] st := by kernel_rfl

noncomputable def k_spec_l22Draw_1i : XT × List AV × St → Option (AV × St) := resK L f_spec_l22Draw.code [true, true, true, true, false, true] (inlK f_spec_l22Draw.rs)

noncomputable def k_spec_l22Draw_2i : XT × List AV × St → Option (AV × St) := resK L f_spec_l22Draw.code [true, true, true, true, true, false, true] (inlK f_spec_l22Draw.rs)

theorem inl_spec_l22Draw (a0 : AV) (st : St) : L.inl i_spec_l22Draw [a0] st =
  (L.inl i_spec_l01Below [a0, (.int .i64 8)] st).bind fun v10_1 =>
  (L.inl i_spec_l01Once [a0, (.int .i64 20)] v10_1.2).bind fun v12_2 =>
  cnd v12_2.1
  (mkLit 0 1 .nils [] v12_2.2 fun v13_3 vs_4 =>
  (L.loop [0, 3, 4, 5] [0, 2, 4] b_spec_l22Draw_1 [a0, (.int .i64 12), v13_3, (.int .i64 0)] vs_4).bind k_spec_l22Draw_1i)
  (mkLit 0 1 .nils [] v12_2.2 fun v13_5 vs_6 =>
  (L.loop [0, 3, 4, 5] [0, 2, 4] b_spec_l22Draw_1 [a0, v10_1.1, v13_5, (.int .i64 0)] vs_6).bind k_spec_l22Draw_1i) := (lim_inl F _ _ _).trans (by kernel_rfl)

theorem k_spec_l22Draw_1i_0 (o0 : AV) (o2 : AV) (o4 : AV) (st : St) : k_spec_l22Draw_1i ((.exit 0), [o0, o2, o4], st) =
  (aLen o4).bind fun v25_1 =>
  (L.loop [0, 4, 25, 26] [2, 4] b_spec_l22Draw_2 [o0, o4, v25_1, (.int .i64 0)] st).bind k_spec_l22Draw_2i := by kernel_rfl

theorem k_spec_l22Draw_2i_2 (o2 : AV) (o4 : AV) (st : St) : k_spec_l22Draw_2i ((.exit 2), [o2, o4], st) =
  some (o4, st) := by kernel_rfl

noncomputable def f_spec_l01New : IFn := (F i_spec_l01New).getD default

noncomputable def b_spec_l01New_1 : ICode := loopAt f_spec_l01New.code 0

noncomputable def k_spec_l01New_1 : XT × List AV × St → Option (AV × Nat) := resK L f_spec_l01New.code [true, true, false, true] (callK f_spec_l01New.rs)

theorem loop_spec_l01New_1 (x0 : AV) (x3 : AV) (x4 : AV) (st : St) : L.loop [0, 3, 4] [0, 2, 3] b_spec_l01New_1 [x0, x3, x4] st =
  (aLen x0).bind fun v10_1 =>
  (aBin .lss x4 v10_1).bind fun v11_2 =>
  cnd v11_2
  ((aBin .lss x4 (.int .i64 4000)).bind fun v14_3 =>
  cnd v14_3
  ((aBin .mul x3 (.int .i64 59)).bind fun v19_4 =>
  (aIaddr 1 x0 x4).bind fun v22_5 =>
  (aLoad false 1 st v22_5).bind fun v23_6 =>
  (aConv .i64 v23_6).bind fun v24_7 =>
  (aBin .add v19_4 v24_7).bind fun v25_8 =>
  (aBin .add v25_8 (.int .i64 7)).bind fun v26_9 =>
  (aBin .and v26_9 (.int .i64 1073741823)).bind fun v27_10 =>
  (aBin .add x4 (.int .i64 1)).bind fun v17_11 =>
  L.loop [0, 3, 4] [0, 2, 3] b_spec_l01New_1 [x0, v27_10, v17_11] st)
  (some ((.exit 0), [x0, .undef, x3], st)))
  (some ((.exit 0), [x0, .undef, x3], st)) := (lim_loop F _ _ _ _ _).trans (by kernel_rfl)

noncomputable def k_spec_l01New_1i : XT × List AV × St → Option (AV × St) := resK L f_spec_l01New.code [true, true, false, true] (inlK f_spec_l01New.rs)

theorem inl_spec_l01New (a0 : AV) (st : St) : L.inl i_spec_l01New [a0] st =
  (aLen a0).bind fun v6_1 =>
  (aBin .add (.int .i64 1951) v6_1).bind fun v7_2 =>
  (L.loop [0, 3, 4] [0, 2, 3] b_spec_l01New_1 [a0, v7_2, (.int .i64 0)] st).bind k_spec_l01New_1i := (lim_inl F _ _ _).trans (by kernel_rfl)

theorem k_spec_l01New_1i_0 (o0 : AV) (o2 : AV) (o3 : AV) (st : St) : k_spec_l01New_1i ((.exit 0), [o0, o2, o3], st) =
  (mkBuild [(0, 1, o0), (2, 1, o3)] zc_nii.cells).bind fun v30_1 =>
  mkNew (.agg v30_1) st fun v31_2 vs_3 =>
  some (v31_2, vs_3) := by kernel_rfl

noncomputable def f_impl_vertexSets : IFn := (F i_impl_vertexSets).getD default

noncomputable def b_impl_vertexSets_1 : ICode := loopAt f_impl_vertexSets.code 0

noncomputable def b_impl_vertexSets_2 : ICode := loopAt f_impl_vertexSets.code 1

noncomputable def k_impl_vertexSets_1 : XT × List AV × St → Option (AV × Nat) := resK L f_impl_vertexSets.code [true, true, false, true] (callK f_impl_vertexSets.rs)

noncomputable def k_impl_vertexSets_2 : XT × List AV × St → Option (XT × List AV × St) := resK L b_impl_vertexSets_1 [true, false, true, false, true] (loopK L [0, 3, 4] [2, 3] b_impl_vertexSets_1)

theorem call_impl_vertexSets (a0 : AV) (n : Nat) : L.call i_impl_vertexSets [a0] n =
  mkLit 0 1 .nils [] (st0 n) fun v7_1 vs_2 =>
  (aBin .shl (.int .i64 1) a0).bind fun v9_3 =>
  (aBin .sub v9_3 (.int .i64 1)).bind fun v10_4 =>
  (L.loop [0, 3, 4] [2, 3] b_impl_vertexSets_1 [a0, v7_1, v10_4] vs_2).bind k_impl_vertexSets_1 := (lim_call F _ _ _).trans (by kernel_rfl)

theorem loop_impl_vertexSets_1 (x0 : AV) (x3 : AV) (x4 : AV) (st : St) : L.loop [0, 3, 4] [2, 3] b_impl_vertexSets_1 [x0, x3, x4] st =
  (aBin .geq x4 (.int .i64 0)).bind fun v12_1 =>
  cnd v12_1
  (mkLit 0 1 (.int .i64 0) [] st fun v15_2 vs_3 =>
  (L.loop [0, 3, 4, 5, 6] [0, 2, 3, 4, 5] b_impl_vertexSets_2 [x0, x3, x4, v15_2, (.int .i64 0)] vs_3).bind k_impl_vertexSets_2)
  (some ((.exit 0), [.undef, x3], st)) := (lim_loop F _ _ _ _ _).trans (by kernel_rfl)

theorem loop_impl_vertexSets_2 (x0 : AV) (x3 : AV) (x4 : AV) (x5 : AV) (x6 : AV) (st : St) : L.loop [0, 3, 4, 5, 6] [0, 2, 3, 4, 5] b_impl_vertexSets_2 [x0, x3, x4, x5, x6] st =
  (aBin .lss x6 x0).bind fun v18_1 =>
  cnd v18_1
  ((aBin .sub x0 (.int .i64 1)).bind fun v23_2 =>
  (aBin .sub v23_2 x6).bind fun v25_3 =>
  (aBin .shr x4 v25_3).bind fun v26_4 =>
  (aBin .and v26_4 (.int .i64 1)).bind fun v27_5 =>
  (aBin .eql v27_5 (.int .i64 1)).bind fun v28_6 =>
  cnd v28_6
  (mkLit 1 1 (.int .i64 0) [(0, x6)] st fun v31_7 vs_8 =>
  (aApp 1 x5 v31_7 vs_8).bind fun v32_9 =>
  (aBin .add x6 (.int .i64 1)).bind fun v20_10 =>
  L.loop [0, 3, 4, 5, 6] [0, 2, 3, 4, 5] b_impl_vertexSets_2 [x0, x3, x4, v32_9.1, v20_10] v32_9.2)
  ((aBin .add x6 (.int .i64 1)).bind fun v20_11 =>
  L.loop [0, 3, 4, 5, 6] [0, 2, 3, 4, 5] b_impl_vertexSets_2 [x0, x3, x4, x5, v20_11] st))
  (some ((.exit 2), [x0, .undef, x3, x4, x5], st)) := (lim_loop F _ _ _ _ _).trans (by kernel_rfl)

theorem k_impl_vertexSets_1_0 (o2 : AV) (o3 : AV) (st : St) : k_impl_vertexSets_1 ((.exit 0), [o2, o3], st) =
  (resTup st o3).bind fun r => some (r, st.n) := by kernel_rfl

theorem k_impl_vertexSets_2_2 (o0 : AV) (o2 : AV) (o3 : AV) (o4 : AV) (o5 : AV) (st : St) : k_impl_vertexSets_2 ((.exit 2), [o0, o2, o3, o4, o5], st) =
  mkLit 1 1 .nils [(0, o5)] st fun v35_1 vs_2 =>
  (aApp 1 o3 v35_1 vs_2).bind fun v36_3 =>
  (aBin .sub o4 (.int .i64 1)).bind fun v14_4 =>
  L.loop [0, 3, 4] [2, 3] b_impl_vertexSets_1 [o0, v36_3.1, v14_4] v36_3.2 := by kernel_rfl

noncomputable def f_impl_allAdjacent : IFn := (F i_impl_allAdjacent).getD default

noncomputable def b_impl_allAdjacent_1 : ICode := loopAt f_impl_allAdjacent.code 0

noncomputable def b_impl_allAdjacent_2 : ICode := loopAt f_impl_allAdjacent.code 1

noncomputable def k_impl_allAdjacent_1 : XT × List AV × St → Option (AV × Nat) := resK L f_impl_allAdjacent.code [true, false, true] (callK f_impl_allAdjacent.rs)

noncomputable def k_impl_allAdjacent_2 : XT × List AV × St → Option (XT × List AV × St) := resK L b_impl_allAdjacent_1 [true, true, false, true, true] (loopK L [0, 1, 9, 10, 11] [4] b_impl_allAdjacent_1)

theorem call_impl_allAdjacent (a0 : AV) (a1 : AV) (n : Nat) : L.call i_impl_allAdjacent [a0, a1] n =
  (aLen a1).bind fun v10_1 =>
  (L.loop [0, 1, 9, 10, 11] [4] b_impl_allAdjacent_1 [a0, a1, a1, v10_1, (.int .i64 0)] (st0 n)).bind k_impl_allAdjacent_1 := (lim_call F _ _ _).trans (by kernel_rfl)

theorem loop_impl_allAdjacent_1 (x0 : AV) (x1 : AV) (x9 : AV) (x10 : AV) (x11 : AV) (st : St) : L.loop [0, 1, 9, 10, 11] [4] b_impl_allAdjacent_1 [x0, x1, x9, x10, x11] st =
  (aBin .lss x11 x10).bind fun v12_1 =>
  cnd v12_1
  ((aIaddr 1 x9 x11).bind fun v14_2 =>
  (aLoad false 1 st v14_2).bind fun v15_3 =>
  (aSlc 1 x1 none (some x11)).bind fun v18_4 =>
  (aLen v18_4).bind fun v19_5 =>
  (L.loop [0, 1, 6, 9, 10, 11, 18, 19, 20] [0, 1, 4, 9, 10, 11] b_impl_allAdjacent_2 [x0, x1, v15_3, x9, x10, x11, v18_4, v19_5, (.int .i64 0)] st).bind k_impl_allAdjacent_2)
  (some ((.exit 0), [.undef], st)) := (lim_loop F _ _ _ _ _).trans (by kernel_rfl)

theorem loop_impl_allAdjacent_2 (x0 : AV) (x1 : AV) (x6 : AV) (x9 : AV) (x10 : AV) (x11 : AV) (x18 : AV) (x19 : AV) (x20 : AV) (st : St) : L.loop [0, 1, 6, 9, 10, 11, 18, 19, 20] [0, 1, 4, 9, 10, 11] b_impl_allAdjacent_2 [x0, x1, x6, x9, x10, x11, x18, x19, x20] st =
  (aBin .lss x20 x19).bind fun v21_1 =>
  cnd v21_1
  ((aIaddr 1 x18 x20).bind fun v22_2 =>
  (aLoad false 1 st v22_2).bind fun v23_3 =>
  (aIaddr 1 x0 v23_3).bind fun v26_4 =>
  (aLoad false 1 st v26_4).bind fun v27_5 =>
  (aIaddr 1 v27_5 x6).bind fun v29_6 =>
  (aLoad false 1 st v29_6).bind fun v30_7 =>
  (aUn .not v30_7).bind fun v31_8 =>
  cnd v31_8
  (some (.ret, [x0, x1, (.bool false), x9, x10, x11], st))
  ((aBin .add x20 (.int .i64 1)).bind fun v32_9 =>
  L.loop [0, 1, 6, 9, 10, 11, 18, 19, 20] [0, 1, 4, 9, 10, 11] b_impl_allAdjacent_2 [x0, x1, x6, x9, x10, x11, x18, x19, v32_9] st))
  (some ((.exit 2), [x0, x1, .undef, x9, x10, x11], st)) := (lim_loop F _ _ _ _ _).trans (by kernel_rfl)

theorem k_impl_allAdjacent_1_ret (o4 : AV) (st : St) : k_impl_allAdjacent_1 (.ret, [o4], st) =
  (resTup st o4).bind fun r => some (r, st.n) := by kernel_rfl

theorem k_impl_allAdjacent_1_0 (o4 : AV) (st : St) : k_impl_allAdjacent_1 ((.exit 0), [o4], st) =
  (resTup st (.bool true)).bind fun r => some (r, st.n) := by kernel_rfl

theorem k_impl_allAdjacent_2_ret (o0 : AV) (o1 : AV) (o4 : AV) (o9 : AV) (o10 : AV) (o11 : AV) (st : St) : k_impl_allAdjacent_2 (.ret, [o0, o1, o4, o9, o10, o11], st) =
  some (.ret, [o4], st) := by kernel_rfl

theorem k_impl_allAdjacent_2_2 (o0 : AV) (o1 : AV) (o4 : AV) (o9 : AV) (o10 : AV) (o11 : AV) (st : St) : k_impl_allAdjacent_2 ((.exit 2), [o0, o1, o4, o9, o10, o11], st) =
  (aBin .add o11 (.int .i64 1)).bind fun v33_1 =>
  L.loop [0, 1, 9, 10, 11] [4] b_impl_allAdjacent_1 [o0, o1, o9, o10, v33_1] st := by kernel_rfl

noncomputable def f_spec_l01Below : IFn := (F i_spec_l01Below).getD default

theorem inl_spec_l01Below (a0 : AV) (a1 : AV) (st : St) : L.inl i_spec_l01Below [a0, a1] st =
  (aBin .leq a1 (.int .i64 0)).bind fun v10_1 =>
  cnd v10_1
  (some ((.int .i64 0), st))
  ((aBin .leq a1 (.int .i64 256)).bind fun v12_2 =>
  cnd v12_2
  ((L.inl i_spec_l01Byte [a0] st).bind fun v14_3 =>
  (aBin .rem v14_3.1 a1).bind fun v16_4 =>
  some (v16_4, v14_3.2))
  ((L.inl i_spec_l01Byte [a0] st).bind fun v18_5 =>
  (L.inl i_spec_l01Byte [a0] v18_5.2).bind fun v20_6 =>
  (L.inl i_spec_l01Byte [a0] v20_6.2).bind fun v22_7 =>
  (L.inl i_spec_l01Byte [a0] v22_7.2).bind fun v24_8 =>
  (aBin .mul v18_5.1 (.int .i64 16777216)).bind fun v26_9 =>
  (aBin .mul v20_6.1 (.int .i64 65536)).bind fun v28_10 =>
  (aBin .add v26_9 v28_10).bind fun v29_11 =>
  (aBin .mul v22_7.1 (.int .i64 256)).bind fun v31_12 =>
  (aBin .add v29_11 v31_12).bind fun v32_13 =>
  (aBin .add v32_13 v24_8.1).bind fun v34_14 =>
  (aBin .rem v34_14 a1).bind fun v36_15 =>
  some (v36_15, v24_8.2))) := (lim_inl F _ _ _).trans (by kernel_rfl)

noncomputable def f_spec_l01Once : IFn := (F i_spec_l01Once).getD default

theorem inl_spec_l01Once (a0 : AV) (a1 : AV) (st : St) : L.inl i_spec_l01Once [a0, a1] st =
  (L.inl i_spec_l01Below [a0, a1] st).bind fun v7_1 =>
  (aBin .eql v7_1.1 (.int .i64 0)).bind fun v8_2 =>
  some (v8_2, v7_1.2) := (lim_inl F _ _ _).trans (by kernel_rfl)

noncomputable def f_spec_l01Byte : IFn := (F i_spec_l01Byte).getD default

theorem inl_spec_l01Byte (a0 : AV) (st : St) : L.inl i_spec_l01Byte [a0] st =
  (aNilchk a0).bind fun v6_1 =>
  (aFaddr 2 v6_1).bind fun v7_2 =>
  (aLoad false 1 st v7_2).bind fun v8_3 =>
  (aBin .mul v8_3 (.int .i64 6364136223846793005)).bind fun v9_4 =>
  (aBin .add v9_4 (.int .i64 1442695040888963407)).bind fun v10_5 =>
  (aNilchk a0).bind fun v11_6 =>
  (aFaddr 2 v11_6).bind fun v12_7 =>
  (aStore 1 v12_7 v10_5 st).bind fun vs_8 =>
  (aNilchk a0).bind fun v14_9 =>
  (aFaddr 2 v14_9).bind fun v15_10 =>
  (aLoad false 1 vs_8 v15_10).bind fun v16_11 =>
  (aBin .shr v16_11 (.int .u64 33)).bind fun v17_12 =>
  (aNilchk a0).bind fun v19_13 =>
  (aFaddr 2 v19_13).bind fun v20_14 =>
  (aLoad false 1 vs_8 v20_14).bind fun v21_15 =>
  (aBin .shr v21_15 (.int .u64 45)).bind fun v22_16 =>
  (aBin .xor v17_12 v22_16).bind fun v23_17 =>
  (aBin .and v23_17 (.int .i64 255)).bind fun v24_18 =>
  (aNilchk a0).bind fun v26_19 =>
  (aFaddr 1 v26_19).bind fun v27_20 =>
  (aLoad false 1 vs_8 v27_20).bind fun v28_21 =>
  (aNilchk a0).bind fun v30_22 =>
  (aFaddr 0 v30_22).bind fun v31_23 =>
  (aLoad false 1 vs_8 v31_23).bind fun v32_24 =>
  (aLen v32_24).bind fun v33_25 =>
  (aBin .lss v28_21 v33_25).bind fun v34_26 =>
  cnd v34_26
  ((aNilchk a0).bind fun v37_27 =>
  (aFaddr 0 v37_27).bind fun v38_28 =>
  (aLoad false 1 vs_8 v38_28).bind fun v39_29 =>
  (aNilchk a0).bind fun v41_30 =>
  (aFaddr 1 v41_30).bind fun v42_31 =>
  (aLoad false 1 vs_8 v42_31).bind fun v43_32 =>
  (aIaddr 1 v39_29 v43_32).bind fun v44_33 =>
  (aLoad false 1 vs_8 v44_33).bind fun v45_34 =>
  (aConv .i64 v45_34).bind fun v46_35 =>
  (aBin .add v24_18 v46_35).bind fun v47_36 =>
  (aBin .and v47_36 (.int .i64 255)).bind fun v48_37 =>
  (aNilchk a0).bind fun v51_38 =>
  (aFaddr 1 v51_38).bind fun v52_39 =>
  (aLoad false 1 vs_8 v52_39).bind fun v53_40 =>
  (aBin .add v53_40 (.int .i64 1)).bind fun v54_41 =>
  (aNilchk a0).bind fun v55_42 =>
  (aFaddr 1 v55_42).bind fun v56_43 =>
  (aStore 1 v56_43 v54_41 vs_8).bind fun vs_44 =>
  some (v48_37, vs_44))
  (some (v24_18, vs_8)) := (lim_inl F _ _ _).trans (by kernel_rfl)

end Go.Proofs.YtilbmpdeginabaaFw
