/- The equations of the seat's functions, printed out of its code. Conditions: none beside each theorem's own. -/
import Derived.Test.YtpjddmfcikelcaaEq
namespace Go.Proofs.YtpjddmfcikelcaaFw
open Go
set_option maxRecDepth 20000
set_option linter.unusedVariables false

abbrev i_laws_FnExactMaxClique : Nat := 6
abbrev i_impl_MaxClique : Nat := 15
abbrev i_laws_szBoolSS : Nat := 20
abbrev i_laws_toBoolSS : Nat := 22
abbrev i_laws_eqIntS : Nat := 23
abbrev i_laws_eqBoolSS : Nat := 24
abbrev i_laws_markBoolSS : Nat := 25
abbrev i_laws_markIntS : Nat := 26
abbrev i_laws_heldIntS : Nat := 27
abbrev i_spec_MaxClique : Nat := 29
abbrev i_impl_IsGraph : Nat := 50
abbrev i_impl_vertexSets : Nat := 55
abbrev i_impl_allAdjacent : Nat := 56
abbrev i_laws_szBoolS : Nat := 59
abbrev i_spec_IsGraph : Nat := 60
abbrev i_laws_toBoolS : Nat := 61
abbrev i_laws_eqBoolS : Nat := 62
abbrev i_laws_markBoolS : Nat := 63
abbrev i_spec_l22Grow : Nat := 65


noncomputable def f_laws_FnExactMaxClique : IFn := (F i_laws_FnExactMaxClique).getD default

theorem call_laws_FnExactMaxClique (a0 : AV) (n : Nat) : L.call i_laws_FnExactMaxClique [a0] n =
  (clV L i_laws_szBoolSS 0 [a0, (.int .i64 1048576)] (st0 n)).bind fun v13_1 =>
  (aBin .lss v13_1.1 (.int .i64 0)).bind fun v15_2 =>
  cnd v15_2
  ((resTup v13_1.2 (.bool true)).bind fun r => some (r, v13_1.2.n))
  ((clV L i_laws_toBoolSS 0 [a0] v13_1.2).bind fun v17_3 =>
  (clV L i_spec_MaxClique 0 [v17_3.1] v17_3.2).bind fun v18_4 =>
  (clV L i_laws_toBoolSS 6 [a0] v18_4.2).bind fun v20_5 =>
  (clV L i_impl_MaxClique 6 [v20_5.1] v20_5.2).bind fun v22_6 =>
  (clV L i_laws_eqIntS 0 [v22_6.1, v18_4.1] v22_6.2).bind fun v25_7 =>
  (aUn .not v25_7.1).bind fun v26_8 =>
  cnd v26_8
  ((resTup v25_7.2 (.bool false)).bind fun r => some (r, v25_7.2.n))
  ((clV L i_laws_toBoolSS 0 [a0] v25_7.2).bind fun v29_9 =>
  (clV L i_laws_eqBoolSS 0 [v20_5.1, v29_9.1] v29_9.2).bind fun v30_10 =>
  (aUn .not v30_10.1).bind fun v31_11 =>
  cnd v31_11
  ((resTup v30_10.2 (.bool false)).bind fun r => some (r, v30_10.2.n))
  ((L.inl i_laws_markBoolSS [v20_5.1, (.int .i64 1)] v30_10.2).bind fun v34_12 =>
  (aBin .lss v34_12.1 (.int .i64 0)).bind fun v36_13 =>
  cnd v36_13
  ((resTup v34_12.2 (.bool false)).bind fun r => some (r, v34_12.2.n))
  ((clV L i_laws_eqIntS 0 [v22_6.1, v18_4.1] v34_12.2).bind fun v40_14 =>
  (aUn .not v40_14.1).bind fun v41_15 =>
  cnd v41_15
  ((resTup v40_14.2 (.bool false)).bind fun r => some (r, v40_14.2.n))
  ((L.inl i_laws_markIntS [v22_6.1, (.int .i64 1)] v40_14.2).bind fun v45_16 =>
  (clV L i_laws_heldIntS 0 [v22_6.1, (.int .i64 1)] v45_16.2).bind fun v48_17 =>
  (aBin .lss v48_17.1 (.int .i64 0)).bind fun v50_18 =>
  cnd v50_18
  ((resTup v48_17.2 (.bool false)).bind fun r => some (r, v48_17.2.n))
  ((aBin .neq v48_17.1 v45_16.1).bind fun v53_19 =>
  cnd v53_19
  ((resTup v48_17.2 (.bool false)).bind fun r => some (r, v48_17.2.n))
  ((clV L i_laws_toBoolSS 0 [a0] v48_17.2).bind fun v55_20 =>
  (clV L i_impl_MaxClique 0 [v55_20.1] v55_20.2).bind fun v56_21 =>
  (clV L i_laws_eqIntS 0 [v56_21.1, v18_4.1] v56_21.2).bind fun v59_22 =>
  (aUn .not v59_22.1).bind fun v60_23 =>
  cnd v60_23
  ((resTup v59_22.2 (.bool false)).bind fun r => some (r, v59_22.2.n))
  ((clV L i_laws_heldIntS 0 [v22_6.1, (.int .i64 1)] v59_22.2).bind fun v63_24 =>
  (aBin .lss v63_24.1 (.int .i64 0)).bind fun v65_25 =>
  cnd v65_25
  ((resTup v63_24.2 (.bool false)).bind fun r => some (r, v63_24.2.n))
  ((aBin .neq v63_24.1 v45_16.1).bind fun v68_26 =>
  cnd v68_26
  ((resTup v63_24.2 (.bool false)).bind fun r => some (r, v63_24.2.n))
  ((resTup v63_24.2 (.bool true)).bind fun r => some (r, v63_24.2.n))))))))))) := (lim_call F _ _ _).trans (by kernel_rfl)

noncomputable def f_impl_MaxClique : IFn := (F i_impl_MaxClique).getD default

noncomputable def b_impl_MaxClique_1 : ICode := loopAt f_impl_MaxClique.code 0

noncomputable def k_impl_MaxClique_1 : XT × List AV × St → Option (AV × Nat) := resK L f_impl_MaxClique.code [true, true, true, false, true] (callK f_impl_MaxClique.rs)

theorem call_impl_MaxClique (a0 : AV) (n : Nat) : L.call i_impl_MaxClique [a0] n =
  (clV L i_impl_IsGraph 0 [a0] (st0 n)).bind fun v7_1 =>
  (aUn .not v7_1.1).bind fun v8_2 =>
  cnd v8_2
  ((resTup v7_1.2 .nils).bind fun r => some (r, v7_1.2.n))
  (mkLit 0 1 (.int .i64 0) [] v7_1.2 fun v9_3 vs_4 =>
  (aLen a0).bind fun v11_5 =>
  (clV L i_impl_vertexSets 0 [v11_5] vs_4).bind fun v12_6 =>
  (aLen v12_6.1).bind fun v13_7 =>
  (L.loop [0, 3, 12, 13, 14] [2, 3] b_impl_MaxClique_1 [a0, v9_3, v12_6.1, v13_7, (.int .i64 0)] v12_6.2).bind k_impl_MaxClique_1) := (lim_call F _ _ _).trans (by kernel_rfl)

theorem loop_impl_MaxClique_1 (x0 : AV) (x3 : AV) (x12 : AV) (x13 : AV) (x14 : AV) (st : St) : L.loop [0, 3, 12, 13, 14] [2, 3] b_impl_MaxClique_1 [x0, x3, x12, x13, x14] st =
  (aBin .lss x14 x13).bind fun v15_1 =>
  cnd v15_1
  ((aIaddr 1 x12 x14).bind fun v16_2 =>
  (aLoad false 1 st v16_2).bind fun v17_3 =>
  (aLen v17_3).bind fun v19_4 =>
  (aLen x3).bind fun v21_5 =>
  (aBin .gtr v19_4 v21_5).bind fun v22_6 =>
  cnd v22_6
  ((clV L i_impl_allAdjacent 0 [x0, v17_3] st).bind fun v26_7 =>
  cnd v26_7.1
  ((aBin .add x14 (.int .i64 1)).bind fun v29_8 =>
  L.loop [0, 3, 12, 13, 14] [2, 3] b_impl_MaxClique_1 [x0, v17_3, x12, x13, v29_8] v26_7.2)
  ((aBin .add x14 (.int .i64 1)).bind fun v29_9 =>
  L.loop [0, 3, 12, 13, 14] [2, 3] b_impl_MaxClique_1 [x0, x3, x12, x13, v29_9] v26_7.2))
  ((aBin .add x14 (.int .i64 1)).bind fun v29_10 =>
  L.loop [0, 3, 12, 13, 14] [2, 3] b_impl_MaxClique_1 [x0, x3, x12, x13, v29_10] st))
  (some ((.exit 0), [.undef, x3], st)) := (lim_loop F _ _ _ _ _).trans (by kernel_rfl)

theorem k_impl_MaxClique_1_0 (o2 : AV) (o3 : AV) (st : St) : k_impl_MaxClique_1 ((.exit 0), [o2, o3], st) =
  (resTup st o3).bind fun r => some (r, st.n) := by kernel_rfl

noncomputable def f_laws_szBoolSS : IFn := (F i_laws_szBoolSS).getD default

noncomputable def b_laws_szBoolSS_1 : ICode := loopAt f_laws_szBoolSS.code 0

noncomputable def k_laws_szBoolSS_1 : XT × List AV × St → Option (AV × Nat) := resK L f_laws_szBoolSS.code [true, true, true, false, true] (callK f_laws_szBoolSS.rs)

theorem call_laws_szBoolSS (a0 : AV) (a1 : AV) (n : Nat) : L.call i_laws_szBoolSS [a0, a1] n =
  (aLen a0).bind fun v8_1 =>
  (aBin .sub a1 v8_1).bind fun v9_2 =>
  (aBin .lss v9_2 (.int .i64 0)).bind fun v11_3 =>
  cnd v11_3
  ((resTup (st0 n) (.int .i64 (-1))).bind fun r => some (r, (st0 n).n))
  ((L.loop [0, 1, 5] [1, 4] b_laws_szBoolSS_1 [a0, v9_2, (.int .i64 0)] (st0 n)).bind k_laws_szBoolSS_1) := (lim_call F _ _ _).trans (by kernel_rfl)

theorem loop_laws_szBoolSS_1 (x0 : AV) (x1 : AV) (x5 : AV) (st : St) : L.loop [0, 1, 5] [1, 4] b_laws_szBoolSS_1 [x0, x1, x5] st =
  (aLen x0).bind fun v14_1 =>
  (aBin .lss x5 v14_1).bind fun v15_2 =>
  cnd v15_2
  ((aIaddr 1 x0 x5).bind fun v20_3 =>
  (aLoad false 1 st v20_3).bind fun v21_4 =>
  (clV L i_laws_szBoolS 0 [v21_4, x1] st).bind fun v23_5 =>
  (aBin .lss v23_5.1 (.int .i64 0)).bind fun v25_6 =>
  cnd v25_6
  (some (.ret, [v23_5.1, (.int .i64 (-1))], v23_5.2))
  ((aBin .add x5 (.int .i64 1)).bind fun v17_7 =>
  L.loop [0, 1, 5] [1, 4] b_laws_szBoolSS_1 [x0, v23_5.1, v17_7] v23_5.2))
  (some ((.exit 0), [x1, .undef], st)) := (lim_loop F _ _ _ _ _).trans (by kernel_rfl)

theorem k_laws_szBoolSS_1_ret (o1 : AV) (o4 : AV) (st : St) : k_laws_szBoolSS_1 (.ret, [o1, o4], st) =
  (resTup st o4).bind fun r => some (r, st.n) := by kernel_rfl

theorem k_laws_szBoolSS_1_0 (o1 : AV) (o4 : AV) (st : St) : k_laws_szBoolSS_1 ((.exit 0), [o1, o4], st) =
  (resTup st o1).bind fun r => some (r, st.n) := by kernel_rfl

noncomputable def f_laws_toBoolSS : IFn := (F i_laws_toBoolSS).getD default

noncomputable def b_laws_toBoolSS_1 : ICode := loopAt f_laws_toBoolSS.code 0

noncomputable def k_laws_toBoolSS_1 : XT × List AV × St → Option (AV × Nat) := resK L f_laws_toBoolSS.code [true, true, false, true] (callK f_laws_toBoolSS.rs)

theorem call_laws_toBoolSS (a0 : AV) (n : Nat) : L.call i_laws_toBoolSS [a0] n =
  (aLen a0).bind fun v6_1 =>
  mkMake 1 .nils v6_1 v6_1 (st0 n) fun v7_2 vs_3 =>
  (L.loop [0, 3, 4] [2, 3] b_laws_toBoolSS_1 [a0, v7_2, (.int .i64 0)] vs_3).bind k_laws_toBoolSS_1 := (lim_call F _ _ _).trans (by kernel_rfl)

theorem loop_laws_toBoolSS_1 (x0 : AV) (x3 : AV) (x4 : AV) (st : St) : L.loop [0, 3, 4] [2, 3] b_laws_toBoolSS_1 [x0, x3, x4] st =
  (aLen x0).bind fun v10_1 =>
  (aBin .lss x4 v10_1).bind fun v11_2 =>
  cnd v11_2
  ((aIaddr 1 x0 x4).bind fun v18_3 =>
  (aLoad false 1 st v18_3).bind fun v19_4 =>
  (clV L i_laws_toBoolS 0 [v19_4] st).bind fun v20_5 =>
  (aIaddr 1 x3 x4).bind fun v21_6 =>
  (aStore 1 v21_6 v20_5.1 v20_5.2).bind fun vs_7 =>
  (aBin .add x4 (.int .i64 1)).bind fun v13_8 =>
  L.loop [0, 3, 4] [2, 3] b_laws_toBoolSS_1 [x0, x3, v13_8] vs_7)
  (some ((.exit 0), [.undef, x3], st)) := (lim_loop F _ _ _ _ _).trans (by kernel_rfl)

theorem k_laws_toBoolSS_1_0 (o2 : AV) (o3 : AV) (st : St) : k_laws_toBoolSS_1 ((.exit 0), [o2, o3], st) =
  (resTup st o3).bind fun r => some (r, st.n) := by kernel_rfl

noncomputable def f_laws_eqIntS : IFn := (F i_laws_eqIntS).getD default

noncomputable def b_laws_eqIntS_1 : ICode := loopAt f_laws_eqIntS.code 0

noncomputable def k_laws_eqIntS_1 : XT × List AV × St → Option (AV × Nat) := resK L f_laws_eqIntS.code [true, true, false, true] (callK f_laws_eqIntS.rs)

theorem call_laws_eqIntS (a0 : AV) (a1 : AV) (n : Nat) : L.call i_laws_eqIntS [a0, a1] n =
  (aLen a0).bind fun v7_1 =>
  (aLen a1).bind fun v9_2 =>
  (aBin .neq v7_1 v9_2).bind fun v10_3 =>
  cnd v10_3
  ((resTup (st0 n) (.bool false)).bind fun r => some (r, (st0 n).n))
  ((L.loop [0, 1, 5] [4] b_laws_eqIntS_1 [a0, a1, (.int .i64 0)] (st0 n)).bind k_laws_eqIntS_1) := (lim_call F _ _ _).trans (by kernel_rfl)

theorem loop_laws_eqIntS_1 (x0 : AV) (x1 : AV) (x5 : AV) (st : St) : L.loop [0, 1, 5] [4] b_laws_eqIntS_1 [x0, x1, x5] st =
  (aLen x0).bind fun v13_1 =>
  (aBin .lss x5 v13_1).bind fun v14_2 =>
  cnd v14_2
  ((aIaddr 1 x0 x5).bind fun v19_3 =>
  (aLoad false 1 st v19_3).bind fun v20_4 =>
  (aIaddr 1 x1 x5).bind fun v23_5 =>
  (aLoad false 1 st v23_5).bind fun v24_6 =>
  (aBin .neq v20_4 v24_6).bind fun v25_7 =>
  cnd v25_7
  (some (.ret, [(.bool false)], st))
  ((aBin .add x5 (.int .i64 1)).bind fun v16_8 =>
  L.loop [0, 1, 5] [4] b_laws_eqIntS_1 [x0, x1, v16_8] st))
  (some ((.exit 0), [.undef], st)) := (lim_loop F _ _ _ _ _).trans (by kernel_rfl)

theorem k_laws_eqIntS_1_ret (o4 : AV) (st : St) : k_laws_eqIntS_1 (.ret, [o4], st) =
  (resTup st o4).bind fun r => some (r, st.n) := by kernel_rfl

theorem k_laws_eqIntS_1_0 (o4 : AV) (st : St) : k_laws_eqIntS_1 ((.exit 0), [o4], st) =
  (resTup st (.bool true)).bind fun r => some (r, st.n) := by kernel_rfl

noncomputable def f_laws_eqBoolSS : IFn := (F i_laws_eqBoolSS).getD default

noncomputable def b_laws_eqBoolSS_1 : ICode := loopAt f_laws_eqBoolSS.code 0

noncomputable def k_laws_eqBoolSS_1 : XT × List AV × St → Option (AV × Nat) := resK L f_laws_eqBoolSS.code [true, true, false, true] (callK f_laws_eqBoolSS.rs)

theorem call_laws_eqBoolSS (a0 : AV) (a1 : AV) (n : Nat) : L.call i_laws_eqBoolSS [a0, a1] n =
  (aLen a0).bind fun v7_1 =>
  (aLen a1).bind fun v9_2 =>
  (aBin .neq v7_1 v9_2).bind fun v10_3 =>
  cnd v10_3
  ((resTup (st0 n) (.bool false)).bind fun r => some (r, (st0 n).n))
  ((L.loop [0, 1, 5] [4] b_laws_eqBoolSS_1 [a0, a1, (.int .i64 0)] (st0 n)).bind k_laws_eqBoolSS_1) := (lim_call F _ _ _).trans (by kernel_rfl)

theorem loop_laws_eqBoolSS_1 (x0 : AV) (x1 : AV) (x5 : AV) (st : St) : L.loop [0, 1, 5] [4] b_laws_eqBoolSS_1 [x0, x1, x5] st =
  (aLen x0).bind fun v13_1 =>
  (aBin .lss x5 v13_1).bind fun v14_2 =>
  cnd v14_2
  ((aIaddr 1 x0 x5).bind fun v19_3 =>
  (aLoad false 1 st v19_3).bind fun v20_4 =>
  (aIaddr 1 x1 x5).bind fun v23_5 =>
  (aLoad false 1 st v23_5).bind fun v24_6 =>
  (clV L i_laws_eqBoolS 0 [v20_4, v24_6] st).bind fun v25_7 =>
  (aUn .not v25_7.1).bind fun v26_8 =>
  cnd v26_8
  (some (.ret, [(.bool false)], v25_7.2))
  ((aBin .add x5 (.int .i64 1)).bind fun v16_9 =>
  L.loop [0, 1, 5] [4] b_laws_eqBoolSS_1 [x0, x1, v16_9] v25_7.2))
  (some ((.exit 0), [.undef], st)) := (lim_loop F _ _ _ _ _).trans (by kernel_rfl)

theorem k_laws_eqBoolSS_1_ret (o4 : AV) (st : St) : k_laws_eqBoolSS_1 (.ret, [o4], st) =
  (resTup st o4).bind fun r => some (r, st.n) := by kernel_rfl

theorem k_laws_eqBoolSS_1_0 (o4 : AV) (st : St) : k_laws_eqBoolSS_1 ((.exit 0), [o4], st) =
  (resTup st (.bool true)).bind fun r => some (r, st.n) := by kernel_rfl

noncomputable def f_laws_markBoolSS : IFn := (F i_laws_markBoolSS).getD default

noncomputable def b_laws_markBoolSS_1 : ICode := loopAt f_laws_markBoolSS.code 0

noncomputable def k_laws_markBoolSS_1 : XT × List AV × St → Option (AV × Nat) := resK L f_laws_markBoolSS.code [true, false, true] (callK f_laws_markBoolSS.rs)

theorem call_laws_markBoolSS (a0 : AV) (a1 : AV) (n : Nat) : L.call i_laws_markBoolSS [a0, a1] n =
  (L.loop [0, 1, 5] [1, 4] b_laws_markBoolSS_1 [a0, a1, (.int .i64 0)] (st0 n)).bind k_laws_markBoolSS_1 := (lim_call F _ _ _).trans (by kernel_rfl)

theorem loop_laws_markBoolSS_1 (x0 : AV) (x1 : AV) (x5 : AV) (st : St) : L.loop [0, 1, 5] [1, 4] b_laws_markBoolSS_1 [x0, x1, x5] st =
  (aLen x0).bind fun v8_1 =>
  (aBin .lss x5 v8_1).bind fun v9_2 =>
  cnd v9_2
  ((aIaddr 1 x0 x5).bind fun v14_3 =>
  (aLoad false 1 st v14_3).bind fun v15_4 =>
  (L.inl i_laws_markBoolS [v15_4, x1] st).bind fun v17_5 =>
  (aBin .add x5 (.int .i64 1)).bind fun v11_6 =>
  L.loop [0, 1, 5] [1, 4] b_laws_markBoolSS_1 [x0, v17_5.1, v11_6] v17_5.2)
  (some ((.exit 0), [x1, .undef], st)) := (lim_loop F _ _ _ _ _).trans (by kernel_rfl)

theorem k_laws_markBoolSS_1_0 (o1 : AV) (o4 : AV) (st : St) : k_laws_markBoolSS_1 ((.exit 0), [o1, o4], st) =
  (resTup st o1).bind fun r => some (r, st.n) := by kernel_rfl

noncomputable def k_laws_markBoolSS_1i : XT × List AV × St → Option (AV × St) := resK L f_laws_markBoolSS.code [true, false, true] (inlK f_laws_markBoolSS.rs)

theorem inl_laws_markBoolSS (a0 : AV) (a1 : AV) (st : St) : L.inl i_laws_markBoolSS [a0, a1] st =
  (L.loop [0, 1, 5] [1, 4] b_laws_markBoolSS_1 [a0, a1, (.int .i64 0)] st).bind k_laws_markBoolSS_1i := (lim_inl F _ _ _).trans (by kernel_rfl)

theorem k_laws_markBoolSS_1i_0 (o1 : AV) (o4 : AV) (st : St) : k_laws_markBoolSS_1i ((.exit 0), [o1, o4], st) =
  some (o1, st) := by kernel_rfl

noncomputable def f_laws_markIntS : IFn := (F i_laws_markIntS).getD default

noncomputable def b_laws_markIntS_1 : ICode := loopAt f_laws_markIntS.code 0

noncomputable def k_laws_markIntS_1 : XT × List AV × St → Option (AV × Nat) := resK L f_laws_markIntS.code [true, false, true] (callK f_laws_markIntS.rs)

theorem call_laws_markIntS (a0 : AV) (a1 : AV) (n : Nat) : L.call i_laws_markIntS [a0, a1] n =
  (L.loop [0, 1, 5] [1, 4] b_laws_markIntS_1 [a0, a1, (.int .i64 0)] (st0 n)).bind k_laws_markIntS_1 := (lim_call F _ _ _).trans (by kernel_rfl)

theorem loop_laws_markIntS_1 (x0 : AV) (x1 : AV) (x5 : AV) (st : St) : L.loop [0, 1, 5] [1, 4] b_laws_markIntS_1 [x0, x1, x5] st =
  (aLen x0).bind fun v8_1 =>
  (aBin .lss x5 v8_1).bind fun v9_2 =>
  cnd v9_2
  ((aIaddr 1 x0 x5).bind fun v15_3 =>
  (aStore 1 v15_3 x1 st).bind fun vs_4 =>
  (aBin .add x1 (.int .i64 1)).bind fun v17_5 =>
  (aBin .add x5 (.int .i64 1)).bind fun v11_6 =>
  L.loop [0, 1, 5] [1, 4] b_laws_markIntS_1 [x0, v17_5, v11_6] vs_4)
  (some ((.exit 0), [x1, .undef], st)) := (lim_loop F _ _ _ _ _).trans (by kernel_rfl)

theorem k_laws_markIntS_1_0 (o1 : AV) (o4 : AV) (st : St) : k_laws_markIntS_1 ((.exit 0), [o1, o4], st) =
  (resTup st o1).bind fun r => some (r, st.n) := by kernel_rfl

noncomputable def k_laws_markIntS_1i : XT × List AV × St → Option (AV × St) := resK L f_laws_markIntS.code [true, false, true] (inlK f_laws_markIntS.rs)

theorem inl_laws_markIntS (a0 : AV) (a1 : AV) (st : St) : L.inl i_laws_markIntS [a0, a1] st =
  (L.loop [0, 1, 5] [1, 4] b_laws_markIntS_1 [a0, a1, (.int .i64 0)] st).bind k_laws_markIntS_1i := (lim_inl F _ _ _).trans (by kernel_rfl)

theorem k_laws_markIntS_1i_0 (o1 : AV) (o4 : AV) (st : St) : k_laws_markIntS_1i ((.exit 0), [o1, o4], st) =
  some (o1, st) := by kernel_rfl

noncomputable def f_laws_heldIntS : IFn := (F i_laws_heldIntS).getD default

noncomputable def b_laws_heldIntS_1 : ICode := loopAt f_laws_heldIntS.code 0

noncomputable def k_laws_heldIntS_1 : XT × List AV × St → Option (AV × Nat) := resK L f_laws_heldIntS.code [true, false, true] (callK f_laws_heldIntS.rs)

theorem call_laws_heldIntS (a0 : AV) (a1 : AV) (n : Nat) : L.call i_laws_heldIntS [a0, a1] n =
  (L.loop [0, 1, 5] [1, 4] b_laws_heldIntS_1 [a0, a1, (.int .i64 0)] (st0 n)).bind k_laws_heldIntS_1 := (lim_call F _ _ _).trans (by kernel_rfl)

theorem loop_laws_heldIntS_1 (x0 : AV) (x1 : AV) (x5 : AV) (st : St) : L.loop [0, 1, 5] [1, 4] b_laws_heldIntS_1 [x0, x1, x5] st =
  (aLen x0).bind fun v8_1 =>
  (aBin .lss x5 v8_1).bind fun v9_2 =>
  cnd v9_2
  ((aIaddr 1 x0 x5).bind fun v14_3 =>
  (aLoad false 1 st v14_3).bind fun v15_4 =>
  (aBin .neq v15_4 x1).bind fun v17_5 =>
  cnd v17_5
  (some (.ret, [x1, (.int .i64 (-1))], st))
  ((aBin .add x1 (.int .i64 1)).bind fun v19_6 =>
  (aBin .add x5 (.int .i64 1)).bind fun v11_7 =>
  L.loop [0, 1, 5] [1, 4] b_laws_heldIntS_1 [x0, v19_6, v11_7] st))
  (some ((.exit 0), [x1, .undef], st)) := (lim_loop F _ _ _ _ _).trans (by kernel_rfl)

theorem k_laws_heldIntS_1_ret (o1 : AV) (o4 : AV) (st : St) : k_laws_heldIntS_1 (.ret, [o1, o4], st) =
  (resTup st o4).bind fun r => some (r, st.n) := by kernel_rfl

theorem k_laws_heldIntS_1_0 (o1 : AV) (o4 : AV) (st : St) : k_laws_heldIntS_1 ((.exit 0), [o1, o4], st) =
  (resTup st o1).bind fun r => some (r, st.n) := by kernel_rfl

noncomputable def f_spec_MaxClique : IFn := (F i_spec_MaxClique).getD default

theorem call_spec_MaxClique (a0 : AV) (n : Nat) : L.call i_spec_MaxClique [a0] n =
  (clV L i_spec_IsGraph 0 [a0] (st0 n)).bind fun v4_1 =>
  (aUn .not v4_1.1).bind fun v5_2 =>
  cnd v5_2
  ((resTup v4_1.2 .nils).bind fun r => some (r, v4_1.2.n))
  (mkLit 0 1 (.int .i64 0) [] v4_1.2 fun v7_3 vs_4 =>
  mkLit 0 1 (.int .i64 0) [] vs_4 fun v8_5 vs_6 =>
  (clV L i_spec_l22Grow 0 [a0, v7_3, v8_5] vs_6).bind fun v9_7 =>
  (resTup v9_7.2 v9_7.1).bind fun r => some (r, v9_7.2.n)) := (lim_call F _ _ _).trans (by kernel_rfl)

noncomputable def f_impl_IsGraph : IFn := (F i_impl_IsGraph).getD default

noncomputable def b_impl_IsGraph_1 : ICode := loopAt f_impl_IsGraph.code 0

noncomputable def b_impl_IsGraph_2 : ICode := loopAt f_impl_IsGraph.code 1

noncomputable def b_impl_IsGraph_3 : ICode := loopAt f_impl_IsGraph.code 2

noncomputable def k_impl_IsGraph_1 : XT × List AV × St → Option (AV × Nat) := resK L f_impl_IsGraph.code [true, true, true, false, true] (callK f_impl_IsGraph.rs)

noncomputable def k_impl_IsGraph_2 : XT × List AV × St → Option (AV × Nat) := resK L f_impl_IsGraph.code [true, true, true, true, false, true] (callK f_impl_IsGraph.rs)

noncomputable def k_impl_IsGraph_3 : XT × List AV × St → Option (XT × List AV × St) := resK L b_impl_IsGraph_2 [true, true, false, true, true] (loopK L [0, 25, 26, 27] [2] b_impl_IsGraph_2)

theorem call_impl_IsGraph (a0 : AV) (n : Nat) : L.call i_impl_IsGraph [a0] n =
  (aLen a0).bind fun v11_1 =>
  (aBin .gtr v11_1 (.int .i64 12)).bind fun v13_2 =>
  cnd v13_2
  ((resTup (st0 n) (.bool false)).bind fun r => some (r, (st0 n).n))
  ((aLen a0).bind fun v15_3 =>
  (L.loop [0, 3, 14, 15, 16] [0, 2] b_impl_IsGraph_1 [a0, v11_1, a0, v15_3, (.int .i64 0)] (st0 n)).bind k_impl_IsGraph_1) := (lim_call F _ _ _).trans (by kernel_rfl)

theorem loop_impl_IsGraph_1 (x0 : AV) (x3 : AV) (x14 : AV) (x15 : AV) (x16 : AV) (st : St) : L.loop [0, 3, 14, 15, 16] [0, 2] b_impl_IsGraph_1 [x0, x3, x14, x15, x16] st =
  (aBin .lss x16 x15).bind fun v17_1 =>
  cnd v17_1
  ((aIaddr 1 x14 x16).bind fun v18_2 =>
  (aLoad false 1 st v18_2).bind fun v19_3 =>
  (aLen v19_3).bind fun v21_4 =>
  (aBin .neq v21_4 x3).bind fun v23_5 =>
  cnd v23_5
  (some (.ret, [x0, (.bool false)], st))
  ((aBin .add x16 (.int .i64 1)).bind fun v24_6 =>
  L.loop [0, 3, 14, 15, 16] [0, 2] b_impl_IsGraph_1 [x0, x3, x14, x15, v24_6] st))
  (some ((.exit 0), [x0, .undef], st)) := (lim_loop F _ _ _ _ _).trans (by kernel_rfl)

theorem loop_impl_IsGraph_2 (x0 : AV) (x25 : AV) (x26 : AV) (x27 : AV) (st : St) : L.loop [0, 25, 26, 27] [2] b_impl_IsGraph_2 [x0, x25, x26, x27] st =
  (aBin .lss x27 x26).bind fun v28_1 =>
  cnd v28_1
  ((aIaddr 1 x25 x27).bind fun v30_2 =>
  (aLoad false 1 st v30_2).bind fun v31_3 =>
  (aLen v31_3).bind fun v33_4 =>
  (L.loop [0, 6, 25, 26, 27, 32, 33, 34] [0, 2, 25, 26, 27] b_impl_IsGraph_3 [x0, x27, x25, x26, x27, v31_3, v33_4, (.int .i64 0)] st).bind k_impl_IsGraph_3)
  (some ((.exit 2), [.undef], st)) := (lim_loop F _ _ _ _ _).trans (by kernel_rfl)

theorem loop_impl_IsGraph_3 (x0 : AV) (x6 : AV) (x25 : AV) (x26 : AV) (x27 : AV) (x32 : AV) (x33 : AV) (x34 : AV) (st : St) : L.loop [0, 6, 25, 26, 27, 32, 33, 34] [0, 2, 25, 26, 27] b_impl_IsGraph_3 [x0, x6, x25, x26, x27, x32, x33, x34] st =
  (aBin .lss x34 x33).bind fun v35_1 =>
  cnd v35_1
  ((aIaddr 1 x32 x34).bind fun v37_2 =>
  (aLoad false 1 st v37_2).bind fun v38_3 =>
  cnd v38_3
  ((aBin .eql x6 x34).bind fun v43_4 =>
  cnd v43_4
  (some (.ret, [x0, (.bool false), x25, x26, x27], st))
  ((aIaddr 1 x0 x34).bind fun v49_5 =>
  (aLoad false 1 st v49_5).bind fun v50_6 =>
  (aIaddr 1 v50_6 x6).bind fun v52_7 =>
  (aLoad false 1 st v52_7).bind fun v53_8 =>
  (aBinb .neq v38_3 v53_8).bind fun v54_9 =>
  cnd v54_9
  (some (.ret, [x0, (.bool false), x25, x26, x27], st))
  ((aBin .add x34 (.int .i64 1)).bind fun v56_10 =>
  L.loop [0, 6, 25, 26, 27, 32, 33, 34] [0, 2, 25, 26, 27] b_impl_IsGraph_3 [x0, x6, x25, x26, x27, x32, x33, v56_10] st)))
  ((aIaddr 1 x0 x34).bind fun v49_11 =>
  (aLoad false 1 st v49_11).bind fun v50_12 =>
  (aIaddr 1 v50_12 x6).bind fun v52_13 =>
  (aLoad false 1 st v52_13).bind fun v53_14 =>
  (aBinb .neq v38_3 v53_14).bind fun v54_15 =>
  cnd v54_15
  (some (.ret, [x0, (.bool false), x25, x26, x27], st))
  ((aBin .add x34 (.int .i64 1)).bind fun v56_16 =>
  L.loop [0, 6, 25, 26, 27, 32, 33, 34] [0, 2, 25, 26, 27] b_impl_IsGraph_3 [x0, x6, x25, x26, x27, x32, x33, v56_16] st)))
  (some ((.exit 4), [x0, .undef, x25, x26, x27], st)) := (lim_loop F _ _ _ _ _).trans (by kernel_rfl)

theorem k_impl_IsGraph_1_ret (o0 : AV) (o2 : AV) (st : St) : k_impl_IsGraph_1 (.ret, [o0, o2], st) =
  (resTup st o2).bind fun r => some (r, st.n) := by kernel_rfl

theorem k_impl_IsGraph_1_0 (o0 : AV) (o2 : AV) (st : St) : k_impl_IsGraph_1 ((.exit 0), [o0, o2], st) =
  (aLen o0).bind fun v26_1 =>
  (L.loop [0, 25, 26, 27] [2] b_impl_IsGraph_2 [o0, o0, v26_1, (.int .i64 0)] st).bind k_impl_IsGraph_2 := by kernel_rfl

theorem k_impl_IsGraph_2_ret (o2 : AV) (st : St) : k_impl_IsGraph_2 (.ret, [o2], st) =
  (resTup st o2).bind fun r => some (r, st.n) := by kernel_rfl

theorem k_impl_IsGraph_2_2 (o2 : AV) (st : St) : k_impl_IsGraph_2 ((.exit 2), [o2], st) =
  (resTup st (.bool true)).bind fun r => some (r, st.n) := by kernel_rfl

theorem k_impl_IsGraph_3_ret (o0 : AV) (o2 : AV) (o25 : AV) (o26 : AV) (o27 : AV) (st : St) : k_impl_IsGraph_3 (.ret, [o0, o2, o25, o26, o27], st) =
  some (.ret, [o2], st) := by kernel_rfl

theorem k_impl_IsGraph_3_4 (o0 : AV) (o2 : AV) (o25 : AV) (o26 : AV) (o27 : AV) (st : St) : k_impl_IsGraph_3 ((.exit 4), [o0, o2, o25, o26, o27], st) =
  (aBin .add o27 (.int .i64 1)).bind fun v57_1 =>
  L.loop [0, 25, 26, 27] [2] b_impl_IsGraph_2 [o0, o25, o26, v57_1] st := by kernel_rfl

noncomputable def f_impl_vertexSets : IFn := (F i_impl_vertexSets).getD default

noncomputable def b_impl_vertexSets_1 : ICode := loopAt f_impl_vertexSets.code 0

noncomputable def b_impl_vertexSets_2 : ICode := loopAt f_impl_vertexSets.code 1

noncomputable def k_impl_vertexSets_1 : XT × List AV × St → Option (AV × Nat) := resK L f_impl_vertexSets.code [true, true, false, true] (callK f_impl_vertexSets.rs)

noncomputable def k_impl_vertexSets_2 : XT × List AV × St → Option (XT × List AV × St) := resK L b_impl_vertexSets_1 [true, false, true, false, true] (loopK L [0, 3, 4] [2, 3] b_impl_vertexSets_1)

theorem call_impl_vertexSets (a0 : AV) (n : Nat) : L.call i_impl_vertexSets [a0] n =
  mkLit 0 1 .nils [] (st0 n) fun v7_1 vs_2 =>
  (aBin .shl (.int .i64 1) a0).bind fun v9_3 =>
  (aBin .sub v9_3 (.int .i64 1)).bind fun v10_4 =>
  (L.loop [0, 3, 4] [2, 3] b_impl_vertexSets_1 [a0, v7_1, v10_4] vs_2).bind k_impl_vertexSets_1 := (lim_call F _ _ _).trans (by kernel_rfl)

theorem loop_impl_vertexSets_1 (x0 : AV) (x3 : AV) (x4 : AV) (st : St) : L.loop [0, 3, 4] [2, 3] b_impl_vertexSets_1 [x0, x3, x4] st =
  (aBin .geq x4 (.int .i64 0)).bind fun v12_1 =>
  cnd v12_1
  (mkLit 0 1 (.int .i64 0) [] st fun v15_2 vs_3 =>
  (L.loop [0, 3, 4, 5, 6] [0, 2, 3, 4, 5] b_impl_vertexSets_2 [x0, x3, x4, v15_2, (.int .i64 0)] vs_3).bind k_impl_vertexSets_2)
  (some ((.exit 0), [.undef, x3], st)) := (lim_loop F _ _ _ _ _).trans (by kernel_rfl)

theorem loop_impl_vertexSets_2 (x0 : AV) (x3 : AV) (x4 : AV) (x5 : AV) (x6 : AV) (st : St) : L.loop [0, 3, 4, 5, 6] [0, 2, 3, 4, 5] b_impl_vertexSets_2 [x0, x3, x4, x5, x6] st =
  (aBin .lss x6 x0).bind fun v18_1 =>
  cnd v18_1
  ((aBin .sub x0 (.int .i64 1)).bind fun v23_2 =>
  (aBin .sub v23_2 x6).bind fun v25_3 =>
  (aBin .shr x4 v25_3).bind fun v26_4 =>
  (aBin .and v26_4 (.int .i64 1)).bind fun v27_5 =>
  (aBin .eql v27_5 (.int .i64 1)).bind fun v28_6 =>
  cnd v28_6
  (mkLit 1 1 (.int .i64 0) [(0, x6)] st fun v31_7 vs_8 =>
  (aApp 1 x5 v31_7 vs_8).bind fun v32_9 =>
  (aBin .add x6 (.int .i64 1)).bind fun v20_10 =>
  L.loop [0, 3, 4, 5, 6] [0, 2, 3, 4, 5] b_impl_vertexSets_2 [x0, x3, x4, v32_9.1, v20_10] v32_9.2)
  ((aBin .add x6 (.int .i64 1)).bind fun v20_11 =>
  L.loop [0, 3, 4, 5, 6] [0, 2, 3, 4, 5] b_impl_vertexSets_2 [x0, x3, x4, x5, v20_11] st))
  (some ((.exit 2), [x0, .undef, x3, x4, x5], st)) := (lim_loop F _ _ _ _ _).trans (by kernel_rfl)

theorem k_impl_vertexSets_1_0 (o2 : AV) (o3 : AV) (st : St) : k_impl_vertexSets_1 ((.exit 0), [o2, o3], st) =
  (resTup st o3).bind fun r => some (r, st.n) := by kernel_rfl

theorem k_impl_vertexSets_2_2 (o0 : AV) (o2 : AV) (o3 : AV) (o4 : AV) (o5 : AV) (st : St) : k_impl_vertexSets_2 ((.exit 2), [o0, o2, o3, o4, o5], st) =
  mkLit 1 1 .nils [(0, o5)] st fun v35_1 vs_2 =>
  (aApp 1 o3 v35_1 vs_2).bind fun v36_3 =>
  (aBin .sub o4 (.int .i64 1)).bind fun v14_4 =>
  L.loop [0, 3, 4] [2, 3] b_impl_vertexSets_1 [o0, v36_3.1, v14_4] v36_3.2 := by kernel_rfl

noncomputable def f_impl_allAdjacent : IFn := (F i_impl_allAdjacent).getD default

noncomputable def b_impl_allAdjacent_1 : ICode := loopAt f_impl_allAdjacent.code 0

noncomputable def b_impl_allAdjacent_2 : ICode := loopAt f_impl_allAdjacent.code 1

noncomputable def k_impl_allAdjacent_1 : XT × List AV × St → Option (AV × Nat) := resK L f_impl_allAdjacent.code [true, false, true] (callK f_impl_allAdjacent.rs)

noncomputable def k_impl_allAdjacent_2 : XT × List AV × St → Option (XT × List AV × St) := resK L b_impl_allAdjacent_1 [true, true, false, true, true] (loopK L [0, 1, 9, 10, 11] [4] b_impl_allAdjacent_1)

theorem call_impl_allAdjacent (a0 : AV) (a1 : AV) (n : Nat) : L.call i_impl_allAdjacent [a0, a1] n =
  (aLen a1).bind fun v10_1 =>
  (L.loop [0, 1, 9, 10, 11] [4] b_impl_allAdjacent_1 [a0, a1, a1, v10_1, (.int .i64 0)] (st0 n)).bind k_impl_allAdjacent_1 := (lim_call F _ _ _).trans (by kernel_rfl)

theorem loop_impl_allAdjacent_1 (x0 : AV) (x1 : AV) (x9 : AV) (x10 : AV) (x11 : AV) (st : St) : L.loop [0, 1, 9, 10, 11] [4] b_impl_allAdjacent_1 [x0, x1, x9, x10, x11] st =
  (aBin .lss x11 x10).bind fun v12_1 =>
  cnd v12_1
  ((aIaddr 1 x9 x11).bind fun v14_2 =>
  (aLoad false 1 st v14_2).bind fun v15_3 =>
  (aSlc 1 x1 none (some x11)).bind fun v18_4 =>
  (aLen v18_4).bind fun v19_5 =>
  (L.loop [0, 1, 6, 9, 10, 11, 18, 19, 20] [0, 1, 4, 9, 10, 11] b_impl_allAdjacent_2 [x0, x1, v15_3, x9, x10, x11, v18_4, v19_5, (.int .i64 0)] st).bind k_impl_allAdjacent_2)
  (some ((.exit 0), [.undef], st)) := (lim_loop F _ _ _ _ _).trans (by kernel_rfl)

theorem loop_impl_allAdjacent_2 (x0 : AV) (x1 : AV) (x6 : AV) (x9 : AV) (x10 : AV) (x11 : AV) (x18 : AV) (x19 : AV) (x20 : AV) (st : St) : L.loop [0, 1, 6, 9, 10, 11, 18, 19, 20] [0, 1, 4, 9, 10, 11] b_impl_allAdjacent_2 [x0, x1, x6, x9, x10, x11, x18, x19, x20] st =
  (aBin .lss x20 x19).bind fun v21_1 =>
  cnd v21_1
  ((aIaddr 1 x18 x20).bind fun v22_2 =>
  (aLoad false 1 st v22_2).bind fun v23_3 =>
  (aIaddr 1 x0 v23_3).bind fun v26_4 =>
  (aLoad false 1 st v26_4).bind fun v27_5 =>
  (aIaddr 1 v27_5 x6).bind fun v29_6 =>
  (aLoad false 1 st v29_6).bind fun v30_7 =>
  (aUn .not v30_7).bind fun v31_8 =>
  cnd v31_8
  (some (.ret, [x0, x1, (.bool false), x9, x10, x11], st))
  ((aBin .add x20 (.int .i64 1)).bind fun v32_9 =>
  L.loop [0, 1, 6, 9, 10, 11, 18, 19, 20] [0, 1, 4, 9, 10, 11] b_impl_allAdjacent_2 [x0, x1, x6, x9, x10, x11, x18, x19, v32_9] st))
  (some ((.exit 2), [x0, x1, .undef, x9, x10, x11], st)) := (lim_loop F _ _ _ _ _).trans (by kernel_rfl)

theorem k_impl_allAdjacent_1_ret (o4 : AV) (st : St) : k_impl_allAdjacent_1 (.ret, [o4], st) =
  (resTup st o4).bind fun r => some (r, st.n) := by kernel_rfl

theorem k_impl_allAdjacent_1_0 (o4 : AV) (st : St) : k_impl_allAdjacent_1 ((.exit 0), [o4], st) =
  (resTup st (.bool true)).bind fun r => some (r, st.n) := by kernel_rfl

theorem k_impl_allAdjacent_2_ret (o0 : AV) (o1 : AV) (o4 : AV) (o9 : AV) (o10 : AV) (o11 : AV) (st : St) : k_impl_allAdjacent_2 (.ret, [o0, o1, o4, o9, o10, o11], st) =
  some (.ret, [o4], st) := by kernel_rfl

theorem k_impl_allAdjacent_2_2 (o0 : AV) (o1 : AV) (o4 : AV) (o9 : AV) (o10 : AV) (o11 : AV) (st : St) : k_impl_allAdjacent_2 ((.exit 2), [o0, o1, o4, o9, o10, o11], st) =
  (aBin .add o11 (.int .i64 1)).bind fun v33_1 =>
  L.loop [0, 1, 9, 10, 11] [4] b_impl_allAdjacent_1 [o0, o1, o9, o10, v33_1] st := by kernel_rfl

noncomputable def f_laws_szBoolS : IFn := (F i_laws_szBoolS).getD default

theorem call_laws_szBoolS (a0 : AV) (a1 : AV) (n : Nat) : L.call i_laws_szBoolS [a0, a1] n =
  (aLen a0).bind fun v7_1 =>
  (aBin .sub a1 v7_1).bind fun v8_2 =>
  (aBin .lss v8_2 (.int .i64 0)).bind fun v10_3 =>
  cnd v10_3
  ((resTup (st0 n) (.int .i64 (-1))).bind fun r => some (r, (st0 n).n))
  ((resTup (st0 n) v8_2).bind fun r => some (r, (st0 n).n)) := (lim_call F _ _ _).trans (by kernel_rfl)

noncomputable def f_spec_IsGraph : IFn := (F i_spec_IsGraph).getD default

noncomputable def b_spec_IsGraph_1 : ICode := loopAt f_spec_IsGraph.code 0

noncomputable def b_spec_IsGraph_2 : ICode := loopAt f_spec_IsGraph.code 1

noncomputable def b_spec_IsGraph_3 : ICode := loopAt f_spec_IsGraph.code 2

noncomputable def k_spec_IsGraph_1 : XT × List AV × St → Option (AV × Nat) := resK L f_spec_IsGraph.code [true, true, false, true] (callK f_spec_IsGraph.rs)

noncomputable def k_spec_IsGraph_2 : XT × List AV × St → Option (AV × Nat) := resK L f_spec_IsGraph.code [true, true, true, false, true] (callK f_spec_IsGraph.rs)

noncomputable def k_spec_IsGraph_3 : XT × List AV × St → Option (XT × List AV × St) := resK L b_spec_IsGraph_2 [true, true, false, true, true] (loopK L [0, 24, 25, 26] [2] b_spec_IsGraph_2)

theorem call_spec_IsGraph (a0 : AV) (n : Nat) : L.call i_spec_IsGraph [a0] n =
  (aLen a0).bind fun v10_1 =>
  (aBin .gtr v10_1 (.int .i64 12)).bind fun v11_2 =>
  cnd v11_2
  ((resTup (st0 n) (.bool false)).bind fun r => some (r, (st0 n).n))
  ((aLen a0).bind fun v13_3 =>
  (L.loop [0, 12, 13, 14] [0, 2] b_spec_IsGraph_1 [a0, a0, v13_3, (.int .i64 0)] (st0 n)).bind k_spec_IsGraph_1) := (lim_call F _ _ _).trans (by kernel_rfl)

theorem loop_spec_IsGraph_1 (x0 : AV) (x12 : AV) (x13 : AV) (x14 : AV) (st : St) : L.loop [0, 12, 13, 14] [0, 2] b_spec_IsGraph_1 [x0, x12, x13, x14] st =
  (aBin .lss x14 x13).bind fun v15_1 =>
  cnd v15_1
  ((aIaddr 1 x12 x14).bind fun v16_2 =>
  (aLoad false 1 st v16_2).bind fun v17_3 =>
  (aLen v17_3).bind fun v19_4 =>
  (aLen x0).bind fun v21_5 =>
  (aBin .neq v19_4 v21_5).bind fun v22_6 =>
  cnd v22_6
  (some (.ret, [x0, (.bool false)], st))
  ((aBin .add x14 (.int .i64 1)).bind fun v23_7 =>
  L.loop [0, 12, 13, 14] [0, 2] b_spec_IsGraph_1 [x0, x12, x13, v23_7] st))
  (some ((.exit 0), [x0, .undef], st)) := (lim_loop F _ _ _ _ _).trans (by kernel_rfl)

theorem loop_spec_IsGraph_2 (x0 : AV) (x24 : AV) (x25 : AV) (x26 : AV) (st : St) : L.loop [0, 24, 25, 26] [2] b_spec_IsGraph_2 [x0, x24, x25, x26] st =
  (aBin .lss x26 x25).bind fun v27_1 =>
  cnd v27_1
  ((aIaddr 1 x24 x26).bind fun v29_2 =>
  (aLoad false 1 st v29_2).bind fun v30_3 =>
  (aLen v30_3).bind fun v32_4 =>
  (L.loop [0, 5, 24, 25, 26, 31, 32, 33] [0, 2, 24, 25, 26] b_spec_IsGraph_3 [x0, x26, x24, x25, x26, v30_3, v32_4, (.int .i64 0)] st).bind k_spec_IsGraph_3)
  (some ((.exit 2), [.undef], st)) := (lim_loop F _ _ _ _ _).trans (by kernel_rfl)

theorem loop_spec_IsGraph_3 (x0 : AV) (x5 : AV) (x24 : AV) (x25 : AV) (x26 : AV) (x31 : AV) (x32 : AV) (x33 : AV) (st : St) : L.loop [0, 5, 24, 25, 26, 31, 32, 33] [0, 2, 24, 25, 26] b_spec_IsGraph_3 [x0, x5, x24, x25, x26, x31, x32, x33] st =
  (aBin .lss x33 x32).bind fun v34_1 =>
  cnd v34_1
  ((aIaddr 1 x31 x33).bind fun v36_2 =>
  (aLoad false 1 st v36_2).bind fun v37_3 =>
  cnd v37_3
  ((aBin .eql x5 x33).bind fun v42_4 =>
  cnd v42_4
  (some (.ret, [x0, (.bool false), x24, x25, x26], st))
  ((aIaddr 1 x0 x33).bind fun v48_5 =>
  (aLoad false 1 st v48_5).bind fun v49_6 =>
  (aIaddr 1 v49_6 x5).bind fun v51_7 =>
  (aLoad false 1 st v51_7).bind fun v52_8 =>
  (aBinb .neq v37_3 v52_8).bind fun v53_9 =>
  cnd v53_9
  (some (.ret, [x0, (.bool false), x24, x25, x26], st))
  ((aBin .add x33 (.int .i64 1)).bind fun v55_10 =>
  L.loop [0, 5, 24, 25, 26, 31, 32, 33] [0, 2, 24, 25, 26] b_spec_IsGraph_3 [x0, x5, x24, x25, x26, x31, x32, v55_10] st)))
  ((aIaddr 1 x0 x33).bind fun v48_11 =>
  (aLoad false 1 st v48_11).bind fun v49_12 =>
  (aIaddr 1 v49_12 x5).bind fun v51_13 =>
  (aLoad false 1 st v51_13).bind fun v52_14 =>
  (aBinb .neq v37_3 v52_14).bind fun v53_15 =>
  cnd v53_15
  (some (.ret, [x0, (.bool false), x24, x25, x26], st))
  ((aBin .add x33 (.int .i64 1)).bind fun v55_16 =>
  L.loop [0, 5, 24, 25, 26, 31, 32, 33] [0, 2, 24, 25, 26] b_spec_IsGraph_3 [x0, x5, x24, x25, x26, x31, x32, v55_16] st)))
  (some ((.exit 4), [x0, .undef, x24, x25, x26], st)) := (lim_loop F _ _ _ _ _).trans (by kernel_rfl)

theorem k_spec_IsGraph_1_ret (o0 : AV) (o2 : AV) (st : St) : k_spec_IsGraph_1 (.ret, [o0, o2], st) =
  (resTup st o2).bind fun r => some (r, st.n) := by kernel_rfl

theorem k_spec_IsGraph_1_0 (o0 : AV) (o2 : AV) (st : St) : k_spec_IsGraph_1 ((.exit 0), [o0, o2], st) =
  (aLen o0).bind fun v25_1 =>
  (L.loop [0, 24, 25, 26] [2] b_spec_IsGraph_2 [o0, o0, v25_1, (.int .i64 0)] st).bind k_spec_IsGraph_2 := by kernel_rfl

theorem k_spec_IsGraph_2_ret (o2 : AV) (st : St) : k_spec_IsGraph_2 (.ret, [o2], st) =
  (resTup st o2).bind fun r => some (r, st.n) := by kernel_rfl

theorem k_spec_IsGraph_2_2 (o2 : AV) (st : St) : k_spec_IsGraph_2 ((.exit 2), [o2], st) =
  (resTup st (.bool true)).bind fun r => some (r, st.n) := by kernel_rfl

theorem k_spec_IsGraph_3_ret (o0 : AV) (o2 : AV) (o24 : AV) (o25 : AV) (o26 : AV) (st : St) : k_spec_IsGraph_3 (.ret, [o0, o2, o24, o25, o26], st) =
  some (.ret, [o2], st) := by kernel_rfl

theorem k_spec_IsGraph_3_4 (o0 : AV) (o2 : AV) (o24 : AV) (o25 : AV) (o26 : AV) (st : St) : k_spec_IsGraph_3 ((.exit 4), [o0, o2, o24, o25, o26], st) =
  (aBin .add o26 (.int .i64 1)).bind fun v56_1 =>
  L.loop [0, 24, 25, 26] [2] b_spec_IsGraph_2 [o0, o24, o25, v56_1] st := by kernel_rfl

noncomputable def f_laws_toBoolS : IFn := (F i_laws_toBoolS).getD default

noncomputable def b_laws_toBoolS_1 : ICode := loopAt f_laws_toBoolS.code 0

noncomputable def k_laws_toBoolS_1 : XT × List AV × St → Option (AV × Nat) := resK L f_laws_toBoolS.code [true, true, false, true] (callK f_laws_toBoolS.rs)

theorem call_laws_toBoolS (a0 : AV) (n : Nat) : L.call i_laws_toBoolS [a0] n =
  (aLen a0).bind fun v6_1 =>
  mkMake 1 (.bool false) v6_1 v6_1 (st0 n) fun v7_2 vs_3 =>
  (L.loop [0, 3, 4] [2, 3] b_laws_toBoolS_1 [a0, v7_2, (.int .i64 0)] vs_3).bind k_laws_toBoolS_1 := (lim_call F _ _ _).trans (by kernel_rfl)

theorem loop_laws_toBoolS_1 (x0 : AV) (x3 : AV) (x4 : AV) (st : St) : L.loop [0, 3, 4] [2, 3] b_laws_toBoolS_1 [x0, x3, x4] st =
  (aLen x0).bind fun v10_1 =>
  (aBin .lss x4 v10_1).bind fun v11_2 =>
  cnd v11_2
  ((aIaddr 1 x0 x4).bind fun v18_3 =>
  (aLoad false 1 st v18_3).bind fun v19_4 =>
  (aIaddr 1 x3 x4).bind fun v20_5 =>
  (aStore 1 v20_5 v19_4 st).bind fun vs_6 =>
  (aBin .add x4 (.int .i64 1)).bind fun v13_7 =>
  L.loop [0, 3, 4] [2, 3] b_laws_toBoolS_1 [x0, x3, v13_7] vs_6)
  (some ((.exit 0), [.undef, x3], st)) := (lim_loop F _ _ _ _ _).trans (by kernel_rfl)

theorem k_laws_toBoolS_1_0 (o2 : AV) (o3 : AV) (st : St) : k_laws_toBoolS_1 ((.exit 0), [o2, o3], st) =
  (resTup st o3).bind fun r => some (r, st.n) := by kernel_rfl

noncomputable def f_laws_eqBoolS : IFn := (F i_laws_eqBoolS).getD default

noncomputable def b_laws_eqBoolS_1 : ICode := loopAt f_laws_eqBoolS.code 0

noncomputable def k_laws_eqBoolS_1 : XT × List AV × St → Option (AV × Nat) := resK L f_laws_eqBoolS.code [true, true, false, true] (callK f_laws_eqBoolS.rs)

theorem call_laws_eqBoolS (a0 : AV) (a1 : AV) (n : Nat) : L.call i_laws_eqBoolS [a0, a1] n =
  (aLen a0).bind fun v7_1 =>
  (aLen a1).bind fun v9_2 =>
  (aBin .neq v7_1 v9_2).bind fun v10_3 =>
  cnd v10_3
  ((resTup (st0 n) (.bool false)).bind fun r => some (r, (st0 n).n))
  ((L.loop [0, 1, 5] [4] b_laws_eqBoolS_1 [a0, a1, (.int .i64 0)] (st0 n)).bind k_laws_eqBoolS_1) := (lim_call F _ _ _).trans (by kernel_rfl)

theorem loop_laws_eqBoolS_1 (x0 : AV) (x1 : AV) (x5 : AV) (st : St) : L.loop [0, 1, 5] [4] b_laws_eqBoolS_1 [x0, x1, x5] st =
  (aLen x0).bind fun v13_1 =>
  (aBin .lss x5 v13_1).bind fun v14_2 =>
  cnd v14_2
  ((aIaddr 1 x0 x5).bind fun v19_3 =>
  (aLoad false 1 st v19_3).bind fun v20_4 =>
  (aIaddr 1 x1 x5).bind fun v23_5 =>
  (aLoad false 1 st v23_5).bind fun v24_6 =>
  (aBinb .neq v20_4 v24_6).bind fun v25_7 =>
  cnd v25_7
  (some (.ret, [(.bool false)], st))
  ((aBin .add x5 (.int .i64 1)).bind fun v16_8 =>
  L.loop [0, 1, 5] [4] b_laws_eqBoolS_1 [x0, x1, v16_8] st))
  (some ((.exit 0), [.undef], st)) := (lim_loop F _ _ _ _ _).trans (by kernel_rfl)

theorem k_laws_eqBoolS_1_ret (o4 : AV) (st : St) : k_laws_eqBoolS_1 (.ret, [o4], st) =
  (resTup st o4).bind fun r => some (r, st.n) := by kernel_rfl

theorem k_laws_eqBoolS_1_0 (o4 : AV) (st : St) : k_laws_eqBoolS_1 ((.exit 0), [o4], st) =
  (resTup st (.bool true)).bind fun r => some (r, st.n) := by kernel_rfl

noncomputable def f_laws_markBoolS : IFn := (F i_laws_markBoolS).getD default

noncomputable def b_laws_markBoolS_1 : ICode := loopAt f_laws_markBoolS.code 0

noncomputable def k_laws_markBoolS_1 : XT × List AV × St → Option (AV × Nat) := resK L f_laws_markBoolS.code [true, false, true] (callK f_laws_markBoolS.rs)

theorem call_laws_markBoolS (a0 : AV) (a1 : AV) (n : Nat) : L.call i_laws_markBoolS [a0, a1] n =
  (L.loop [0, 1, 5] [1, 4] b_laws_markBoolS_1 [a0, a1, (.int .i64 0)] (st0 n)).bind k_laws_markBoolS_1 := (lim_call F _ _ _).trans (by kernel_rfl)

theorem loop_laws_markBoolS_1 (x0 : AV) (x1 : AV) (x5 : AV) (st : St) : L.loop [0, 1, 5] [1, 4] b_laws_markBoolS_1 [x0, x1, x5] st =
  (aLen x0).bind fun v8_1 =>
  (aBin .lss x5 v8_1).bind fun v9_2 =>
  cnd v9_2
  ((aBin .rem x1 (.int .i64 3)).bind fun v15_3 =>
  (aBin .eql v15_3 (.int .i64 0)).bind fun v16_4 =>
  (aIaddr 1 x0 x5).bind fun v17_5 =>
  (aStore 1 v17_5 v16_4 st).bind fun vs_6 =>
  (aBin .add x1 (.int .i64 1)).bind fun v19_7 =>
  (aBin .add x5 (.int .i64 1)).bind fun v11_8 =>
  L.loop [0, 1, 5] [1, 4] b_laws_markBoolS_1 [x0, v19_7, v11_8] vs_6)
  (some ((.exit 0), [x1, .undef], st)) := (lim_loop F _ _ _ _ _).trans (by kernel_rfl)

theorem k_laws_markBoolS_1_0 (o1 : AV) (o4 : AV) (st : St) : k_laws_markBoolS_1 ((.exit 0), [o1, o4], st) =
  (resTup st o1).bind fun r => some (r, st.n) := by kernel_rfl

noncomputable def k_laws_markBoolS_1i : XT × List AV × St → Option (AV × St) := resK L f_laws_markBoolS.code [true, false, true] (inlK f_laws_markBoolS.rs)

theorem inl_laws_markBoolS (a0 : AV) (a1 : AV) (st : St) : L.inl i_laws_markBoolS [a0, a1] st =
  (L.loop [0, 1, 5] [1, 4] b_laws_markBoolS_1 [a0, a1, (.int .i64 0)] st).bind k_laws_markBoolS_1i := (lim_inl F _ _ _).trans (by kernel_rfl)

theorem k_laws_markBoolS_1i_0 (o1 : AV) (o4 : AV) (st : St) : k_laws_markBoolS_1i ((.exit 0), [o1, o4], st) =
  some (o1, st) := by kernel_rfl

noncomputable def f_spec_l22Grow : IFn := (F i_spec_l22Grow).getD default

noncomputable def b_spec_l22Grow_1 : ICode := loopAt f_spec_l22Grow.code 0

noncomputable def b_spec_l22Grow_2 : ICode := loopAt f_spec_l22Grow.code 1

noncomputable def k_spec_l22Grow_1 : XT × List AV × St → Option (AV × Nat) := resK L f_spec_l22Grow.code [true, true, true, true, false, true] (callK f_spec_l22Grow.rs)

noncomputable def k_spec_l22Grow_2 : XT × List AV × St → Option (XT × List AV × St) := resK L b_spec_l22Grow_1 [true, false, true, false, true] (loopK L [0, 1, 2, 8] [2, 6] b_spec_l22Grow_1)

theorem call_spec_l22Grow (a0 : AV) (a1 : AV) (a2 : AV) (n : Nat) : L.call i_spec_l22Grow [a0, a1, a2] n =
  (aLen a1).bind fun v13_1 =>
  (aLen a2).bind fun v15_2 =>
  (aBin .gtr v13_1 v15_2).bind fun v16_3 =>
  cnd v16_3
  ((aApp 1 .nils a1 (st0 n)).bind fun v19_4 =>
  (aLen a1).bind fun v21_5 =>
  (aBin .gtr v21_5 (.int .i64 0)).bind fun v22_6 =>
  cnd v22_6
  ((aLen a1).bind fun v25_7 =>
  (aBin .sub v25_7 (.int .i64 1)).bind fun v26_8 =>
  (aIaddr 1 a1 v26_8).bind fun v27_9 =>
  (aLoad false 1 v19_4.2 v27_9).bind fun v28_10 =>
  (aBin .add v28_10 (.int .i64 1)).bind fun v29_11 =>
  (L.loop [0, 1, 2, 8] [2, 6] b_spec_l22Grow_1 [a0, a1, v19_4.1, v29_11] v19_4.2).bind k_spec_l22Grow_1)
  ((L.loop [0, 1, 2, 8] [2, 6] b_spec_l22Grow_1 [a0, a1, v19_4.1, (.int .i64 0)] v19_4.2).bind k_spec_l22Grow_1))
  ((aLen a1).bind fun v21_12 =>
  (aBin .gtr v21_12 (.int .i64 0)).bind fun v22_13 =>
  cnd v22_13
  ((aLen a1).bind fun v25_14 =>
  (aBin .sub v25_14 (.int .i64 1)).bind fun v26_15 =>
  (aIaddr 1 a1 v26_15).bind fun v27_16 =>
  (aLoad false 1 (st0 n) v27_16).bind fun v28_17 =>
  (aBin .add v28_17 (.int .i64 1)).bind fun v29_18 =>
  (L.loop [0, 1, 2, 8] [2, 6] b_spec_l22Grow_1 [a0, a1, a2, v29_18] (st0 n)).bind k_spec_l22Grow_1)
  ((L.loop [0, 1, 2, 8] [2, 6] b_spec_l22Grow_1 [a0, a1, a2, (.int .i64 0)] (st0 n)).bind k_spec_l22Grow_1)) := (lim_call F _ _ _).trans (by kernel_rfl)

theorem loop_spec_l22Grow_1 (x0 : AV) (x1 : AV) (x2 : AV) (x8 : AV) (st : St) : L.loop [0, 1, 2, 8] [2, 6] b_spec_l22Grow_1 [x0, x1, x2, x8] st =
  (aLen x0).bind fun v33_1 =>
  (aBin .lss x8 v33_1).bind fun v34_2 =>
  cnd v34_2
  ((aLen x1).bind fun v37_3 =>
  (aLen x0).bind fun v39_4 =>
  (aBin .add v37_3 v39_4).bind fun v40_5 =>
  (aBin .sub v40_5 x8).bind fun v42_6 =>
  (aLen x2).bind fun v44_7 =>
  (aBin .gtr v42_6 v44_7).bind fun v45_8 =>
  cnd v45_8
  ((aLen x1).bind fun v50_9 =>
  (L.loop [0, 1, 2, 8, 9, 49, 50, 51] [0, 1, 2, 6, 8, 9] b_spec_l22Grow_2 [x0, x1, x2, x8, (.bool true), x1, v50_9, (.int .i64 0)] st).bind k_spec_l22Grow_2)
  (some ((.exit 0), [x2, .undef], st)))
  (some ((.exit 0), [x2, .undef], st)) := (lim_loop F _ _ _ _ _).trans (by kernel_rfl)

theorem loop_spec_l22Grow_2 (x0 : AV) (x1 : AV) (x2 : AV) (x8 : AV) (x9 : AV) (x49 : AV) (x50 : AV) (x51 : AV) (st : St) : L.loop [0, 1, 2, 8, 9, 49, 50, 51] [0, 1, 2, 6, 8, 9] b_spec_l22Grow_2 [x0, x1, x2, x8, x9, x49, x50, x51] st =
  (aBin .lss x51 x50).bind fun v52_1 =>
  cnd v52_1
  ((aIaddr 1 x49 x51).bind fun v53_2 =>
  (aLoad false 1 st v53_2).bind fun v54_3 =>
  cnd x9
  ((aIaddr 1 x0 x8).bind fun v59_4 =>
  (aLoad false 1 st v59_4).bind fun v60_5 =>
  (aIaddr 1 v60_5 v54_3).bind fun v62_6 =>
  (aLoad false 1 st v62_6).bind fun v63_7 =>
  (aBin .add x51 (.int .i64 1)).bind fun v65_8 =>
  L.loop [0, 1, 2, 8, 9, 49, 50, 51] [0, 1, 2, 6, 8, 9] b_spec_l22Grow_2 [x0, x1, x2, x8, v63_7, x49, x50, v65_8] st)
  ((aBin .add x51 (.int .i64 1)).bind fun v65_9 =>
  L.loop [0, 1, 2, 8, 9, 49, 50, 51] [0, 1, 2, 6, 8, 9] b_spec_l22Grow_2 [x0, x1, x2, x8, (.bool false), x49, x50, v65_9] st))
  (some ((.exit 2), [x0, x1, x2, .undef, x8, x9], st)) := (lim_loop F _ _ _ _ _).trans (by kernel_rfl)

theorem k_spec_l22Grow_1_0 (o2 : AV) (o6 : AV) (st : St) : k_spec_l22Grow_1 ((.exit 0), [o2, o6], st) =
  (resTup st o2).bind fun r => some (r, st.n) := by kernel_rfl

theorem k_spec_l22Grow_2_2 (o0 : AV) (o1 : AV) (o2 : AV) (o6 : AV) (o8 : AV) (o9 : AV) (st : St) : k_spec_l22Grow_2 ((.exit 2), [o0, o1, o2, o6, o8, o9], st) =
  cnd o9
  ((aApp 1 .nils o1 st).bind fun v70_1 =>
  mkLit 1 1 (.int .i64 0) [(0, o8)] v70_1.2 fun v72_2 vs_3 =>
  (aApp 1 v70_1.1 v72_2 vs_3).bind fun v73_4 =>
  (clV L i_spec_l22Grow 0 [o0, v73_4.1, o2] v73_4.2).bind fun v75_5 =>
  (aBin .add o8 (.int .i64 1)).bind fun v48_6 =>
  L.loop [0, 1, 2, 8] [2, 6] b_spec_l22Grow_1 [o0, o1, v75_5.1, v48_6] v75_5.2)
  ((aBin .add o8 (.int .i64 1)).bind fun v48_7 =>
  L.loop [0, 1, 2, 8] [2, 6] b_spec_l22Grow_1 [o0, o1, o2, v48_7] st) := by kernel_rfl

end Go.Proofs.YtpjddmfcikelcaaFw
