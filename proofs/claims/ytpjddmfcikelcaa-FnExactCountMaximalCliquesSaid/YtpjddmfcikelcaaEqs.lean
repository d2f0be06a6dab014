/- The equations of the seat's functions, printed out of its code. Conditions: none beside each theorem's own. -/
import Derived.Test.YtpjddmfcikelcaaEq
namespace Go.Proofs.YtpjddmfcikelcaaFw
open Go
set_option maxRecDepth 20000
set_option linter.unusedVariables false

abbrev i_laws_FnExactCountMaximalCliques : Nat := 5
abbrev i_impl_CountMaximalCliques : Nat := 19
abbrev i_laws_szBoolSS : Nat := 20
abbrev i_laws_toBoolSS : Nat := 22
abbrev i_laws_eqBoolSS : Nat := 24
abbrev i_spec_CountMaximalCliques : Nat := 28
abbrev i_spec_ExtendsClique : Nat := 37
abbrev i_impl_IsGraph : Nat := 50
abbrev i_impl_vertexSets : Nat := 55
abbrev i_impl_allAdjacent : Nat := 56
abbrev i_impl_extendsClique : Nat := 58
abbrev i_laws_szBoolS : Nat := 59
abbrev i_spec_IsGraph : Nat := 60
abbrev i_laws_toBoolS : Nat := 61
abbrev i_laws_eqBoolS : Nat := 62
abbrev i_spec_l22Count : Nat := 64
abbrev i_spec_IsClique : Nat := 71
abbrev i_spec_l01In : Nat := 92


noncomputable def f_laws_FnExactCountMaximalCliques : IFn := (F i_laws_FnExactCountMaximalCliques).getD default

theorem call_laws_FnExactCountMaximalCliques (a0 : AV) (n : Nat) : L.call i_laws_FnExactCountMaximalCliques [a0] n =
  (clV L i_laws_szBoolSS 0 [a0, (.int .i64 1048576)] (st0 n)).bind fun v9_1 =>
  (aBin .lss v9_1.1 (.int .i64 0)).bind fun v11_2 =>
  cnd v11_2
  ((resTup v9_1.2 (.bool true)).bind fun r => some (r, v9_1.2.n))
  ((clV L i_laws_toBoolSS 0 [a0] v9_1.2).bind fun v13_3 =>
  (clV L i_spec_CountMaximalCliques 0 [v13_3.1] v13_3.2).bind fun v14_4 =>
  (clV L i_laws_toBoolSS 0 [a0] v14_4.2).bind fun v16_5 =>
  (clV L i_impl_CountMaximalCliques 0 [v16_5.1] v16_5.2).bind fun v18_6 =>
  (aBin .neq v18_6.1 v14_4.1).bind fun v21_7 =>
  cnd v21_7
  ((resTup v18_6.2 (.bool false)).bind fun r => some (r, v18_6.2.n))
  ((clV L i_laws_toBoolSS 0 [a0] v18_6.2).bind fun v24_8 =>
  (clV L i_laws_eqBoolSS 0 [v16_5.1, v24_8.1] v24_8.2).bind fun v25_9 =>
  (aUn .not v25_9.1).bind fun v26_10 =>
  cnd v26_10
  ((resTup v25_9.2 (.bool false)).bind fun r => some (r, v25_9.2.n))
  ((resTup v25_9.2 (.bool true)).bind fun r => some (r, v25_9.2.n)))) := (lim_call F _ _ _).trans (by kernel_rfl)

noncomputable def f_impl_CountMaximalCliques : IFn := (F i_impl_CountMaximalCliques).getD default

noncomputable def b_impl_CountMaximalCliques_1 : ICode := loopAt f_impl_CountMaximalCliques.code 0

noncomputable def k_impl_CountMaximalCliques_1 : XT × List AV × St → Option (AV × Nat) := resK L f_impl_CountMaximalCliques.code [true, true, true, false, true] (callK f_impl_CountMaximalCliques.rs)

theorem call_impl_CountMaximalCliques (a0 : AV) (n : Nat) : L.call i_impl_CountMaximalCliques [a0] n =
  (clV L i_impl_IsGraph 0 [a0] (st0 n)).bind fun v7_1 =>
  (aUn .not v7_1.1).bind fun v8_2 =>
  cnd v8_2
  ((resTup v7_1.2 (.int .i64 0)).bind fun r => some (r, v7_1.2.n))
  ((aLen a0).bind fun v10_3 =>
  (clV L i_impl_vertexSets 0 [v10_3] v7_1.2).bind fun v11_4 =>
  (aLen v11_4.1).bind fun v12_5 =>
  (L.loop [0, 3, 11, 12, 13] [2, 3] b_impl_CountMaximalCliques_1 [a0, (.int .i64 0), v11_4.1, v12_5, (.int .i64 0)] v11_4.2).bind k_impl_CountMaximalCliques_1) := (lim_call F _ _ _).trans (by kernel_rfl)

theorem loop_impl_CountMaximalCliques_1 (x0 : AV) (x3 : AV) (x11 : AV) (x12 : AV) (x13 : AV) (st : St) : L.loop [0, 3, 11, 12, 13] [2, 3] b_impl_CountMaximalCliques_1 [x0, x3, x11, x12, x13] st =
  (aBin .lss x13 x12).bind fun v14_1 =>
  cnd v14_1
  ((aIaddr 1 x11 x13).bind fun v15_2 =>
  (aLoad false 1 st v15_2).bind fun v16_3 =>
  (clV L i_impl_allAdjacent 0 [x0, v16_3] st).bind fun v19_4 =>
  cnd v19_4.1
  ((clV L i_impl_extendsClique 0 [x0, v16_3] v19_4.2).bind fun v23_5 =>
  (aLen v23_5.1).bind fun v24_6 =>
  (aBin .eql v24_6 (.int .i64 0)).bind fun v25_7 =>
  cnd v25_7
  ((aBin .add x3 (.int .i64 1)).bind fun v28_8 =>
  (aBin .add x13 (.int .i64 1)).bind fun v29_9 =>
  L.loop [0, 3, 11, 12, 13] [2, 3] b_impl_CountMaximalCliques_1 [x0, v28_8, x11, x12, v29_9] v23_5.2)
  ((aBin .add x13 (.int .i64 1)).bind fun v29_10 =>
  L.loop [0, 3, 11, 12, 13] [2, 3] b_impl_CountMaximalCliques_1 [x0, x3, x11, x12, v29_10] v23_5.2))
  ((aBin .add x13 (.int .i64 1)).bind fun v29_11 =>
  L.loop [0, 3, 11, 12, 13] [2, 3] b_impl_CountMaximalCliques_1 [x0, x3, x11, x12, v29_11] v19_4.2))
  (some ((.exit 0), [.undef, x3], st)) := (lim_loop F _ _ _ _ _).trans (by kernel_rfl)

theorem k_impl_CountMaximalCliques_1_0 (o2 : AV) (o3 : AV) (st : St) : k_impl_CountMaximalCliques_1 ((.exit 0), [o2, o3], st) =
  (resTup st o3).bind fun r => some (r, st.n) := by kernel_rfl

noncomputable def f_laws_szBoolSS : IFn := (F i_laws_szBoolSS).getD default

noncomputable def b_laws_szBoolSS_1 : ICode := loopAt f_laws_szBoolSS.code 0

noncomputable def k_laws_szBoolSS_1 : XT × List AV × St → Option (AV × Nat) := resK L f_laws_szBoolSS.code [true, true, true, false, true] (callK f_laws_szBoolSS.rs)

theorem call_laws_szBoolSS (a0 : AV) (a1 : AV) (n : Nat) : L.call i_laws_szBoolSS [a0, a1] n =
  (aLen a0).bind fun v8_1 =>
  (aBin .sub a1 v8_1).bind fun v9_2 =>
  (aBin .lss v9_2 (.int .i64 0)).bind fun v11_3 =>
  cnd v11_3
  ((resTup (st0 n) (.int .i64 (-1))).bind fun r => some (r, (st0 n).n))
  ((L.loop [0, 1, 5] [1, 4] b_laws_szBoolSS_1 [a0, v9_2, (.int .i64 0)] (st0 n)).bind k_laws_szBoolSS_1) := (lim_call F _ _ _).trans (by kernel_rfl)

theorem loop_laws_szBoolSS_1 (x0 : AV) (x1 : AV) (x5 : AV) (st : St) : L.loop [0, 1, 5] [1, 4] b_laws_szBoolSS_1 [x0, x1, x5] st =
  (aLen x0).bind fun v14_1 =>
  (aBin .lss x5 v14_1).bind fun v15_2 =>
  cnd v15_2
  ((aIaddr 1 x0 x5).bind fun v20_3 =>
  (aLoad false 1 st v20_3).bind fun v21_4 =>
  (clV L i_laws_szBoolS 0 [v21_4, x1] st).bind fun v23_5 =>
  (aBin .lss v23_5.1 (.int .i64 0)).bind fun v25_6 =>
  cnd v25_6
  (some (.ret, [v23_5.1, (.int .i64 (-1))], v23_5.2))
  ((aBin .add x5 (.int .i64 1)).bind fun v17_7 =>
  L.loop [0, 1, 5] [1, 4] b_laws_szBoolSS_1 [x0, v23_5.1, v17_7] v23_5.2))
  (some ((.exit 0), [x1, .undef], st)) := (lim_loop F _ _ _ _ _).trans (by kernel_rfl)

theorem k_laws_szBoolSS_1_ret (o1 : AV) (o4 : AV) (st : St) : k_laws_szBoolSS_1 (.ret, [o1, o4], st) =
  (resTup st o4).bind fun r => some (r, st.n) := by kernel_rfl

theorem k_laws_szBoolSS_1_0 (o1 : AV) (o4 : AV) (st : St) : k_laws_szBoolSS_1 ((.exit 0), [o1, o4], st) =
  (resTup st o1).bind fun r => some (r, st.n) := by kernel_rfl

noncomputable def f_laws_toBoolSS : IFn := (F i_laws_toBoolSS).getD default

noncomputable def b_laws_toBoolSS_1 : ICode := loopAt f_laws_toBoolSS.code 0

noncomputable def k_laws_toBoolSS_1 : XT × List AV × St → Option (AV × Nat) := resK L f_laws_toBoolSS.code [true, true, false, true] (callK f_laws_toBoolSS.rs)

theorem call_laws_toBoolSS (a0 : AV) (n : Nat) : L.call i_laws_toBoolSS [a0] n =
  (aLen a0).bind fun v6_1 =>
  mkMake 1 .nils v6_1 v6_1 (st0 n) fun v7_2 vs_3 =>
  (L.loop [0, 3, 4] [2, 3] b_laws_toBoolSS_1 [a0, v7_2, (.int .i64 0)] vs_3).bind k_laws_toBoolSS_1 := (lim_call F _ _ _).trans (by kernel_rfl)

theorem loop_laws_toBoolSS_1 (x0 : AV) (x3 : AV) (x4 : AV) (st : St) : L.loop [0, 3, 4] [2, 3] b_laws_toBoolSS_1 [x0, x3, x4] st =
  (aLen x0).bind fun v10_1 =>
  (aBin .lss x4 v10_1).bind fun v11_2 =>
  cnd v11_2
  ((aIaddr 1 x0 x4).bind fun v18_3 =>
  (aLoad false 1 st v18_3).bind fun v19_4 =>
  (clV L i_laws_toBoolS 0 [v19_4] st).bind fun v20_5 =>
  (aIaddr 1 x3 x4).bind fun v21_6 =>
  (aStore 1 v21_6 v20_5.1 v20_5.2).bind fun vs_7 =>
  (aBin .add x4 (.int .i64 1)).bind fun v13_8 =>
  L.loop [0, 3, 4] [2, 3] b_laws_toBoolSS_1 [x0, x3, v13_8] vs_7)
  (some ((.exit 0), [.undef, x3], st)) := (lim_loop F _ _ _ _ _).trans (by kernel_rfl)

theorem k_laws_toBoolSS_1_0 (o2 : AV) (o3 : AV) (st : St) : k_laws_toBoolSS_1 ((.exit 0), [o2, o3], st) =
  (resTup st o3).bind fun r => some (r, st.n) := by kernel_rfl

noncomputable def f_laws_eqBoolSS : IFn := (F i_laws_eqBoolSS).getD default

noncomputable def b_laws_eqBoolSS_1 : ICode := loopAt f_laws_eqBoolSS.code 0

noncomputable def k_laws_eqBoolSS_1 : XT × List AV × St → Option (AV × Nat) := resK L f_laws_eqBoolSS.code [true, true, false, true] (callK f_laws_eqBoolSS.rs)

theorem call_laws_eqBoolSS (a0 : AV) (a1 : AV) (n : Nat) : L.call i_laws_eqBoolSS [a0, a1] n =
  (aLen a0).bind fun v7_1 =>
  (aLen a1).bind fun v9_2 =>
  (aBin .neq v7_1 v9_2).bind fun v10_3 =>
  cnd v10_3
  ((resTup (st0 n) (.bool false)).bind fun r => some (r, (st0 n).n))
  ((L.loop [0, 1, 5] [4] b_laws_eqBoolSS_1 [a0, a1, (.int .i64 0)] (st0 n)).bind k_laws_eqBoolSS_1) := (lim_call F _ _ _).trans (by kernel_rfl)

theorem loop_laws_eqBoolSS_1 (x0 : AV) (x1 : AV) (x5 : AV) (st : St) : L.loop [0, 1, 5] [4] b_laws_eqBoolSS_1 [x0, x1, x5] st =
  (aLen x0).bind fun v13_1 =>
  (aBin .lss x5 v13_1).bind fun v14_2 =>
  cnd v14_2
  ((aIaddr 1 x0 x5).bind fun v19_3 =>
  (aLoad false 1 st v19_3).bind fun v20_4 =>
  (aIaddr 1 x1 x5).bind fun v23_5 =>
  (aLoad false 1 st v23_5).bind fun v24_6 =>
  (clV L i_laws_eqBoolS 0 [v20_4, v24_6] st).bind fun v25_7 =>
  (aUn .not v25_7.1).bind fun v26_8 =>
  cnd v26_8
  (some (.ret, [(.bool false)], v25_7.2))
  ((aBin .add x5 (.int .i64 1)).bind fun v16_9 =>
  L.loop [0, 1, 5] [4] b_laws_eqBoolSS_1 [x0, x1, v16_9] v25_7.2))
  (some ((.exit 0), [.undef], st)) := (lim_loop F _ _ _ _ _).trans (by kernel_rfl)

theorem k_laws_eqBoolSS_1_ret (o4 : AV) (st : St) : k_laws_eqBoolSS_1 (.ret, [o4], st) =
  (resTup st o4).bind fun r => some (r, st.n) := by kernel_rfl

theorem k_laws_eqBoolSS_1_0 (o4 : AV) (st : St) : k_laws_eqBoolSS_1 ((.exit 0), [o4], st) =
  (resTup st (.bool true)).bind fun r => some (r, st.n) := by kernel_rfl

noncomputable def f_spec_CountMaximalCliques : IFn := (F i_spec_CountMaximalCliques).getD default

theorem call_spec_CountMaximalCliques (a0 : AV) (n : Nat) : L.call i_spec_CountMaximalCliques [a0] n =
  (clV L i_spec_IsGraph 0 [a0] (st0 n)).bind fun v4_1 =>
  (aUn .not v4_1.1).bind fun v5_2 =>
  cnd v5_2
  ((resTup v4_1.2 (.int .i64 0)).bind fun r => some (r, v4_1.2.n))
  (mkLit 0 1 (.int .i64 0) [] v4_1.2 fun v7_3 vs_4 =>
  (clV L i_spec_l22Count 0 [a0, v7_3] vs_4).bind fun v8_5 =>
  (resTup v8_5.2 v8_5.1).bind fun r => some (r, v8_5.2.n)) := (lim_call F _ _ _).trans (by kernel_rfl)

noncomputable def f_spec_ExtendsClique : IFn := (F i_spec_ExtendsClique).getD default

noncomputable def b_spec_ExtendsClique_1 : ICode := loopAt f_spec_ExtendsClique.code 0

noncomputable def b_spec_ExtendsClique_2 : ICode := loopAt f_spec_ExtendsClique.code 1

noncomputable def k_spec_ExtendsClique_1 : XT × List AV × St → Option (AV × Nat) := resK L f_spec_ExtendsClique.code [true, true, true, false, true] (callK f_spec_ExtendsClique.rs)

noncomputable def k_spec_ExtendsClique_2 : XT × List AV × St → Option (XT × List AV × St) := resK L b_spec_ExtendsClique_1 [true, true, false, true, true, false, true] (loopK L [0, 1, 5, 16, 17] [4, 5] b_spec_ExtendsClique_1)

theorem call_spec_ExtendsClique (a0 : AV) (a1 : AV) (n : Nat) : L.call i_spec_ExtendsClique [a0, a1] n =
  mkLit 0 1 (.int .i64 0) [] (st0 n) fun v10_1 vs_2 =>
  (clV L i_spec_IsClique 0 [a0, a1] vs_2).bind fun v13_3 =>
  (aUn .not v13_3.1).bind fun v14_4 =>
  cnd v14_4
  ((resTup v13_3.2 .nils).bind fun r => some (r, v13_3.2.n))
  ((aLen a0).bind fun v16_5 =>
  (L.loop [0, 1, 5, 16, 17] [4, 5] b_spec_ExtendsClique_1 [a0, a1, v10_1, v16_5, (.int .i64 0)] v13_3.2).bind k_spec_ExtendsClique_1) := (lim_call F _ _ _).trans (by kernel_rfl)

theorem loop_spec_ExtendsClique_1 (x0 : AV) (x1 : AV) (x5 : AV) (x16 : AV) (x17 : AV) (st : St) : L.loop [0, 1, 5, 16, 17] [4, 5] b_spec_ExtendsClique_1 [x0, x1, x5, x16, x17] st =
  (aBin .lss x17 x16).bind fun v18_1 =>
  cnd v18_1
  ((aLen x1).bind fun v21_2 =>
  (L.loop [0, 1, 5, 6, 7, 16, 17, 20, 21, 22] [0, 1, 4, 5, 6, 7, 16, 17] b_spec_ExtendsClique_2 [x0, x1, x5, x17, (.bool true), x16, x17, x1, v21_2, (.int .i64 0)] st).bind k_spec_ExtendsClique_2)
  (some ((.exit 0), [.undef, x5], st)) := (lim_loop F _ _ _ _ _).trans (by kernel_rfl)

theorem loop_spec_ExtendsClique_2 (x0 : AV) (x1 : AV) (x5 : AV) (x6 : AV) (x7 : AV) (x16 : AV) (x17 : AV) (x20 : AV) (x21 : AV) (x22 : AV) (st : St) : L.loop [0, 1, 5, 6, 7, 16, 17, 20, 21, 22] [0, 1, 4, 5, 6, 7, 16, 17] b_spec_ExtendsClique_2 [x0, x1, x5, x6, x7, x16, x17, x20, x21, x22] st =
  (aBin .lss x22 x21).bind fun v23_1 =>
  cnd v23_1
  ((aIaddr 1 x20 x22).bind fun v24_2 =>
  (aLoad false 1 st v24_2).bind fun v25_3 =>
  cnd x7
  ((aIaddr 1 x0 x6).bind fun v30_4 =>
  (aLoad false 1 st v30_4).bind fun v31_5 =>
  (aIaddr 1 v31_5 v25_3).bind fun v33_6 =>
  (aLoad false 1 st v33_6).bind fun v34_7 =>
  (aBin .add x22 (.int .i64 1)).bind fun v36_8 =>
  L.loop [0, 1, 5, 6, 7, 16, 17, 20, 21, 22] [0, 1, 4, 5, 6, 7, 16, 17] b_spec_ExtendsClique_2 [x0, x1, x5, x6, v34_7, x16, x17, x20, x21, v36_8] st)
  ((aBin .add x22 (.int .i64 1)).bind fun v36_9 =>
  L.loop [0, 1, 5, 6, 7, 16, 17, 20, 21, 22] [0, 1, 4, 5, 6, 7, 16, 17] b_spec_ExtendsClique_2 [x0, x1, x5, x6, (.bool false), x16, x17, x20, x21, v36_9] st))
  (some ((.exit 2), [x0, x1, .undef, x5, x6, x7, x16, x17], st)) := (lim_loop F _ _ _ _ _).trans (by kernel_rfl)

theorem k_spec_ExtendsClique_1_0 (o4 : AV) (o5 : AV) (st : St) : k_spec_ExtendsClique_1 ((.exit 0), [o4, o5], st) =
  (resTup st o5).bind fun r => some (r, st.n) := by kernel_rfl

theorem k_spec_ExtendsClique_2_2 (o0 : AV) (o1 : AV) (o4 : AV) (o5 : AV) (o6 : AV) (o7 : AV) (o16 : AV) (o17 : AV) (st : St) : k_spec_ExtendsClique_2 ((.exit 2), [o0, o1, o4, o5, o6, o7, o16, o17], st) =
  cnd o7
  (mkLit 1 1 (.int .i64 0) [(0, o6)] st fun v40_1 vs_2 =>
  (aApp 1 o5 v40_1 vs_2).bind fun v41_3 =>
  (aBin .add o17 (.int .i64 1)).bind fun v42_4 =>
  L.loop [0, 1, 5, 16, 17] [4, 5] b_spec_ExtendsClique_1 [o0, o1, v41_3.1, o16, v42_4] v41_3.2)
  ((aBin .add o17 (.int .i64 1)).bind fun v42_5 =>
  L.loop [0, 1, 5, 16, 17] [4, 5] b_spec_ExtendsClique_1 [o0, o1, o5, o16, v42_5] st) := by kernel_rfl

noncomputable def f_impl_IsGraph : IFn := (F i_impl_IsGraph).getD default

noncomputable def b_impl_IsGraph_1 : ICode := loopAt f_impl_IsGraph.code 0

noncomputable def b_impl_IsGraph_2 : ICode := loopAt f_impl_IsGraph.code 1

noncomputable def b_impl_IsGraph_3 : ICode := loopAt f_impl_IsGraph.code 2

noncomputable def k_impl_IsGraph_1 : XT × List AV × St → Option (AV × Nat) := resK L f_impl_IsGraph.code [true, true, true, false, true] (callK f_impl_IsGraph.rs)

noncomputable def k_impl_IsGraph_2 : XT × List AV × St → Option (AV × Nat) := resK L f_impl_IsGraph.code [true, true, true, true, false, true] (callK f_impl_IsGraph.rs)

noncomputable def k_impl_IsGraph_3 : XT × List AV × St → Option (XT × List AV × St) := resK L b_impl_IsGraph_2 [true, true, false, true, true] (loopK L [0, 25, 26, 27] [2] b_impl_IsGraph_2)

theorem call_impl_IsGraph (a0 : AV) (n : Nat) : L.call i_impl_IsGraph [a0] n =
  (aLen a0).bind fun v11_1 =>
  (aBin .gtr v11_1 (.int .i64 12)).bind fun v13_2 =>
  cnd v13_2
  ((resTup (st0 n) (.bool false)).bind fun r => some (r, (st0 n).n))
  ((aLen a0).bind fun v15_3 =>
  (L.loop [0, 3, 14, 15, 16] [0, 2] b_impl_IsGraph_1 [a0, v11_1, a0, v15_3, (.int .i64 0)] (st0 n)).bind k_impl_IsGraph_1) := (lim_call F _ _ _).trans (by kernel_rfl)

theorem loop_impl_IsGraph_1 (x0 : AV) (x3 : AV) (x14 : AV) (x15 : AV) (x16 : AV) (st : St) : L.loop [0, 3, 14, 15, 16] [0, 2] b_impl_IsGraph_1 [x0, x3, x14, x15, x16] st =
  (aBin .lss x16 x15).bind fun v17_1 =>
  cnd v17_1
  ((aIaddr 1 x14 x16).bind fun v18_2 =>
  (aLoad false 1 st v18_2).bind fun v19_3 =>
  (aLen v19_3).bind fun v21_4 =>
  (aBin .neq v21_4 x3).bind fun v23_5 =>
  cnd v23_5
  (some (.ret, [x0, (.bool false)], st))
  ((aBin .add x16 (.int .i64 1)).bind fun v24_6 =>
  L.loop [0, 3, 14, 15, 16] [0, 2] b_impl_IsGraph_1 [x0, x3, x14, x15, v24_6] st))
  (some ((.exit 0), [x0, .undef], st)) := (lim_loop F _ _ _ _ _).trans (by kernel_rfl)

theorem loop_impl_IsGraph_2 (x0 : AV) (x25 : AV) (x26 : AV) (x27 : AV) (st : St) : L.loop [0, 25, 26, 27] [2] b_impl_IsGraph_2 [x0, x25, x26, x27] st =
  (aBin .lss x27 x26).bind fun v28_1 =>
  cnd v28_1
  ((aIaddr 1 x25 x27).bind fun v30_2 =>
  (aLoad false 1 st v30_2).bind fun v31_3 =>
  (aLen v31_3).bind fun v33_4 =>
  (L.loop [0, 6, 25, 26, 27, 32, 33, 34] [0, 2, 25, 26, 27] b_impl_IsGraph_3 [x0, x27, x25, x26, x27, v31_3, v33_4, (.int .i64 0)] st).bind k_impl_IsGraph_3)
  (some ((.exit 2), [.undef], st)) := (lim_loop F _ _ _ _ _).trans (by kernel_rfl)

theorem loop_impl_IsGraph_3 (x0 : AV) (x6 : AV) (x25 : AV) (x26 : AV) (x27 : AV) (x32 : AV) (x33 : AV) (x34 : AV) (st : St) : L.loop [0, 6, 25, 26, 27, 32, 33, 34] [0, 2, 25, 26, 27] b_impl_IsGraph_3 [x0, x6, x25, x26, x27, x32, x33, x34] st =
  (aBin .lss x34 x33).bind fun v35_1 =>
  cnd v35_1
  ((aIaddr 1 x32 x34).bind fun v37_2 =>
  (aLoad false 1 st v37_2).bind fun v38_3 =>
  cnd v38_3
  ((aBin .eql x6 x34).bind fun v43_4 =>
  cnd v43_4
  (some (.ret, [x0, (.bool false), x25, x26, x27], st))
  ((aIaddr 1 x0 x34).bind fun v49_5 =>
  (aLoad false 1 st v49_5).bind fun v50_6 =>
  (aIaddr 1 v50_6 x6).bind fun v52_7 =>
  (aLoad false 1 st v52_7).bind fun v53_8 =>
  (aBinb .neq v38_3 v53_8).bind fun v54_9 =>
  cnd v54_9
  (some (.ret, [x0, (.bool false), x25, x26, x27], st))
  ((aBin .add x34 (.int .i64 1)).bind fun v56_10 =>
  L.loop [0, 6, 25, 26, 27, 32, 33, 34] [0, 2, 25, 26, 27] b_impl_IsGraph_3 [x0, x6, x25, x26, x27, x32, x33, v56_10] st)))
  ((aIaddr 1 x0 x34).bind fun v49_11 =>
  (aLoad false 1 st v49_11).bind fun v50_12 =>
  (aIaddr 1 v50_12 x6).bind fun v52_13 =>
  (aLoad false 1 st v52_13).bind fun v53_14 =>
  (aBinb .neq v38_3 v53_14).bind fun v54_15 =>
  cnd v54_15
  (some (.ret, [x0, (.bool false), x25, x26, x27], st))
  ((aBin .add x34 (.int .i64 1)).bind fun v56_16 =>
  L.loop [0, 6, 25, 26, 27, 32, 33, 34] [0, 2, 25, 26, 27] b_impl_IsGraph_3 [x0, x6, x25, x26, x27, x32, x33, v56_16] st)))
  (some ((.exit 4), [x0, .undef, x25, x26, x27], st)) := (lim_loop F _ _ _ _ _).trans (by kernel_rfl)

theorem k_impl_IsGraph_1_ret (o0 : AV) (o2 : AV) (st : St) : k_impl_IsGraph_1 (.ret, [o0, o2], st) =
  (resTup st o2).bind fun r => some (r, st.n) := by kernel_rfl

theorem k_impl_IsGraph_1_0 (o0 : AV) (o2 : AV) (st : St) : k_impl_IsGraph_1 ((.exit 0), [o0, o2], st) =
  (aLen o0).bind fun v26_1 =>
  (L.loop [0, 25, 26, 27] [2] b_impl_IsGraph_2 [o0, o0, v26_1, (.int .i64 0)] st).bind k_impl_IsGraph_2 := by kernel_rfl

theorem k_impl_IsGraph_2_ret (o2 : AV) (st : St) : k_impl_IsGraph_2 (.ret, [o2], st) =
  (resTup st o2).bind fun r => some (r, st.n) := by kernel_rfl

theorem k_impl_IsGraph_2_2 (o2 : AV) (st : St) : k_impl_IsGraph_2 ((.exit 2), [o2], st) =
  (resTup st (.bool true)).bind fun r => some (r, st.n) := by kernel_rfl

theorem k_impl_IsGraph_3_ret (o0 : AV) (o2 : AV) (o25 : AV) (o26 : AV) (o27 : AV) (st : St) : k_impl_IsGraph_3 (.ret, [o0, o2, o25, o26, o27], st) =
  some (.ret, [o2], st) := by kernel_rfl

theorem k_impl_IsGraph_3_4 (o0 : AV) (o2 : AV) (o25 : AV) (o26 : AV) (o27 : AV) (st : St) : k_impl_IsGraph_3 ((.exit 4), [o0, o2, o25, o26, o27], st) =
  (aBin .add o27 (.int .i64 1)).bind fun v57_1 =>
  L.loop [0, 25, 26, 27] [2] b_impl_IsGraph_2 [o0, o25, o26, v57_1] st := by kernel_rfl

noncomputable def f_impl_vertexSets : IFn := (F i_impl_vertexSets).getD default

noncomputable def b_impl_vertexSets_1 : ICode := loopAt f_impl_vertexSets.code 0

noncomputable def b_impl_vertexSets_2 : ICode := loopAt f_impl_vertexSets.code 1

noncomputable def k_impl_vertexSets_1 : XT × List AV × St → Option (AV × Nat) := resK L f_impl_vertexSets.code [true, true, false, true] (callK f_impl_vertexSets.rs)

noncomputable def k_impl_vertexSets_2 : XT × List AV × St → Option (XT × List AV × St) := resK L b_impl_vertexSets_1 [true, false, true, false, true] (loopK L [0, 3, 4] [2, 3] b_impl_vertexSets_1)

theorem call_impl_vertexSets (a0 : AV) (n : Nat) : L.call i_impl_vertexSets [a0] n =
  mkLit 0 1 .nils [] (st0 n) fun v7_1 vs_2 =>
  (aBin .shl (.int .i64 1) a0).bind fun v9_3 =>
  (aBin .sub v9_3 (.int .i64 1)).bind fun v10_4 =>
  (L.loop [0, 3, 4] [2, 3] b_impl_vertexSets_1 [a0, v7_1, v10_4] vs_2).bind k_impl_vertexSets_1 := (lim_call F _ _ _).trans (by kernel_rfl)

theorem loop_impl_vertexSets_1 (x0 : AV) (x3 : AV) (x4 : AV) (st : St) : L.loop [0, 3, 4] [2, 3] b_impl_vertexSets_1 [x0, x3, x4] st =
  (aBin .geq x4 (.int .i64 0)).bind fun v12_1 =>
  cnd v12_1
  (mkLit 0 1 (.int .i64 0) [] st fun v15_2 vs_3 =>
  (L.loop [0, 3, 4, 5, 6] [0, 2, 3, 4, 5] b_impl_vertexSets_2 [x0, x3, x4, v15_2, (.int .i64 0)] vs_3).bind k_impl_vertexSets_2)
  (some ((.exit 0), [.undef, x3], st)) := (lim_loop F _ _ _ _ _).trans (by kernel_rfl)

theorem loop_impl_vertexSets_2 (x0 : AV) (x3 : AV) (x4 : AV) (x5 : AV) (x6 : AV) (st : St) : L.loop [0, 3, 4, 5, 6] [0, 2, 3, 4, 5] b_impl_vertexSets_2 [x0, x3, x4, x5, x6] st =
  (aBin .lss x6 x0).bind fun v18_1 =>
  cnd v18_1
  ((aBin .sub x0 (.int .i64 1)).bind fun v23_2 =>
  (aBin .sub v23_2 x6).bind fun v25_3 =>
  (aBin .shr x4 v25_3).bind fun v26_4 =>
  (aBin .and v26_4 (.int .i64 1)).bind fun v27_5 =>
  (aBin .eql v27_5 (.int .i64 1)).bind fun v28_6 =>
  cnd v28_6
  (mkLit 1 1 (.int .i64 0) [(0, x6)] st fun v31_7 vs_8 =>
  (aApp 1 x5 v31_7 vs_8).bind fun v32_9 =>
  (aBin .add x6 (.int .i64 1)).bind fun v20_10 =>
  L.loop [0, 3, 4, 5, 6] [0, 2, 3, 4, 5] b_impl_vertexSets_2 [x0, x3, x4, v32_9.1, v20_10] v32_9.2)
  ((aBin .add x6 (.int .i64 1)).bind fun v20_11 =>
  L.loop [0, 3, 4, 5, 6] [0, 2, 3, 4, 5] b_impl_vertexSets_2 [x0, x3, x4, x5, v20_11] st))
  (some ((.exit 2), [x0, .undef, x3, x4, x5], st)) := (lim_loop F _ _ _ _ _).trans (by kernel_rfl)

theorem k_impl_vertexSets_1_0 (o2 : AV) (o3 : AV) (st : St) : k_impl_vertexSets_1 ((.exit 0), [o2, o3], st) =
  (resTup st o3).bind fun r => some (r, st.n) := by kernel_rfl

theorem k_impl_vertexSets_2_2 (o0 : AV) (o2 : AV) (o3 : AV) (o4 : AV) (o5 : AV) (st : St) : k_impl_vertexSets_2 ((.exit 2), [o0, o2, o3, o4, o5], st) =
  mkLit 1 1 .nils [(0, o5)] st fun v35_1 vs_2 =>
  (aApp 1 o3 v35_1 vs_2).bind fun v36_3 =>
  (aBin .sub o4 (.int .i64 1)).bind fun v14_4 =>
  L.loop [0, 3, 4] [2, 3] b_impl_vertexSets_1 [o0, v36_3.1, v14_4] v36_3.2 := by kernel_rfl

noncomputable def f_impl_allAdjacent : IFn := (F i_impl_allAdjacent).getD default

noncomputable def b_impl_allAdjacent_1 : ICode := loopAt f_impl_allAdjacent.code 0

noncomputable def b_impl_allAdjacent_2 : ICode := loopAt f_impl_allAdjacent.code 1

noncomputable def k_impl_allAdjacent_1 : XT × List AV × St → Option (AV × Nat) := resK L f_impl_allAdjacent.code [true, false, true] (callK f_impl_allAdjacent.rs)

noncomputable def k_impl_allAdjacent_2 : XT × List AV × St → Option (XT × List AV × St) := resK L b_impl_allAdjacent_1 [true, true, false, true, true] (loopK L [0, 1, 9, 10, 11] [4] b_impl_allAdjacent_1)

theorem call_impl_allAdjacent (a0 : AV) (a1 : AV) (n : Nat) : L.call i_impl_allAdjacent [a0, a1] n =
  (aLen a1).bind fun v10_1 =>
  (L.loop [0, 1, 9, 10, 11] [4] b_impl_allAdjacent_1 [a0, a1, a1, v10_1, (.int .i64 0)] (st0 n)).bind k_impl_allAdjacent_1 := (lim_call F _ _ _).trans (by kernel_rfl)

theorem loop_impl_allAdjacent_1 (x0 : AV) (x1 : AV) (x9 : AV) (x10 : AV) (x11 : AV) (st : St) : L.loop [0, 1, 9, 10, 11] [4] b_impl_allAdjacent_1 [x0, x1, x9, x10, x11] st =
  (aBin .lss x11 x10).bind fun v12_1 =>
  cnd v12_1
  ((aIaddr 1 x9 x11).bind fun v14_2 =>
  (aLoad false 1 st v14_2).bind fun v15_3 =>
  (aSlc 1 x1 none (some x11)).bind fun v18_4 =>
  (aLen v18_4).bind fun v19_5 =>
  (L.loop [0, 1, 6, 9, 10, 11, 18, 19, 20] [0, 1, 4, 9, 10, 11] b_impl_allAdjacent_2 [x0, x1, v15_3, x9, x10, x11, v18_4, v19_5, (.int .i64 0)] st).bind k_impl_allAdjacent_2)
  (some ((.exit 0), [.undef], st)) := (lim_loop F _ _ _ _ _).trans (by kernel_rfl)

theorem loop_impl_allAdjacent_2 (x0 : AV) (x1 : AV) (x6 : AV) (x9 : AV) (x10 : AV) (x11 : AV) (x18 : AV) (x19 : AV) (x20 : AV) (st : St) : L.loop [0, 1, 6, 9, 10, 11, 18, 19, 20] [0, 1, 4, 9, 10, 11] b_impl_allAdjacent_2 [x0, x1, x6, x9, x10, x11, x18, x19, x20] st =
  (aBin .lss x20 x19).bind fun v21_1 =>
  cnd v21_1
  ((aIaddr 1 x18 x20).bind fun v22_2 =>
  (aLoad false 1 st v22_2).bind fun v23_3 =>
  (aIaddr 1 x0 v23_3).bind fun v26_4 =>
  (aLoad false 1 st v26_4).bind fun v27_5 =>
  (aIaddr 1 v27_5 x6).bind fun v29_6 =>
  (aLoad false 1 st v29_6).bind fun v30_7 =>
  (aUn .not v30_7).bind fun v31_8 =>
  cnd v31_8
  (some (.ret, [x0, x1, (.bool false), x9, x10, x11], st))
  ((aBin .add x20 (.int .i64 1)).bind fun v32_9 =>
  L.loop [0, 1, 6, 9, 10, 11, 18, 19, 20] [0, 1, 4, 9, 10, 11] b_impl_allAdjacent_2 [x0, x1, x6, x9, x10, x11, x18, x19, v32_9] st))
  (some ((.exit 2), [x0, x1, .undef, x9, x10, x11], st)) := (lim_loop F _ _ _ _ _).trans (by kernel_rfl)

theorem k_impl_allAdjacent_1_ret (o4 : AV) (st : St) : k_impl_allAdjacent_1 (.ret, [o4], st) =
  (resTup st o4).bind fun r => some (r, st.n) := by kernel_rfl

theorem k_impl_allAdjacent_1_0 (o4 : AV) (st : St) : k_impl_allAdjacent_1 ((.exit 0), [o4], st) =
  (resTup st (.bool true)).bind fun r => some (r, st.n) := by kernel_rfl

theorem k_impl_allAdjacent_2_ret (o0 : AV) (o1 : AV) (o4 : AV) (o9 : AV) (o10 : AV) (o11 : AV) (st : St) : k_impl_allAdjacent_2 (.ret, [o0, o1, o4, o9, o10, o11], st) =
  some (.ret, [o4], st) := by kernel_rfl

theorem k_impl_allAdjacent_2_2 (o0 : AV) (o1 : AV) (o4 : AV) (o9 : AV) (o10 : AV) (o11 : AV) (st : St) : k_impl_allAdjacent_2 ((.exit 2), [o0, o1, o4, o9, o10, o11], st) =
  (aBin .add o11 (.int .i64 1)).bind fun v33_1 =>
  L.loop [0, 1, 9, 10, 11] [4] b_impl_allAdjacent_1 [o0, o1, o9, o10, v33_1] st := by kernel_rfl

noncomputable def f_impl_extendsClique : IFn := (F i_impl_extendsClique).getD default

noncomputable def b_impl_extendsClique_1 : ICode := loopAt f_impl_extendsClique.code 0

noncomputable def b_impl_extendsClique_2 : ICode := loopAt f_impl_extendsClique.code 1

noncomputable def k_impl_extendsClique_1 : XT × List AV × St → Option (AV × Nat) := resK L f_impl_extendsClique.code [true, true, false, true] (callK f_impl_extendsClique.rs)

noncomputable def k_impl_extendsClique_2 : XT × List AV × St → Option (XT × List AV × St) := resK L b_impl_extendsClique_1 [true, true, false, true, true, false, true] (loopK L [0, 1, 5, 12, 13] [4, 5] b_impl_extendsClique_1)

theorem call_impl_extendsClique (a0 : AV) (a1 : AV) (n : Nat) : L.call i_impl_extendsClique [a0, a1] n =
  mkLit 0 1 (.int .i64 0) [] (st0 n) fun v10_1 vs_2 =>
  (aLen a0).bind fun v12_3 =>
  (L.loop [0, 1, 5, 12, 13] [4, 5] b_impl_extendsClique_1 [a0, a1, v10_1, v12_3, (.int .i64 0)] vs_2).bind k_impl_extendsClique_1 := (lim_call F _ _ _).trans (by kernel_rfl)

theorem loop_impl_extendsClique_1 (x0 : AV) (x1 : AV) (x5 : AV) (x12 : AV) (x13 : AV) (st : St) : L.loop [0, 1, 5, 12, 13] [4, 5] b_impl_extendsClique_1 [x0, x1, x5, x12, x13] st =
  (aBin .lss x13 x12).bind fun v14_1 =>
  cnd v14_1
  ((aLen x1).bind fun v17_2 =>
  (L.loop [0, 1, 5, 6, 7, 12, 13, 16, 17, 18] [0, 1, 4, 5, 6, 7, 12, 13] b_impl_extendsClique_2 [x0, x1, x5, x13, (.bool true), x12, x13, x1, v17_2, (.int .i64 0)] st).bind k_impl_extendsClique_2)
  (some ((.exit 0), [.undef, x5], st)) := (lim_loop F _ _ _ _ _).trans (by kernel_rfl)

theorem loop_impl_extendsClique_2 (x0 : AV) (x1 : AV) (x5 : AV) (x6 : AV) (x7 : AV) (x12 : AV) (x13 : AV) (x16 : AV) (x17 : AV) (x18 : AV) (st : St) : L.loop [0, 1, 5, 6, 7, 12, 13, 16, 17, 18] [0, 1, 4, 5, 6, 7, 12, 13] b_impl_extendsClique_2 [x0, x1, x5, x6, x7, x12, x13, x16, x17, x18] st =
  (aBin .lss x18 x17).bind fun v19_1 =>
  cnd v19_1
  ((aIaddr 1 x16 x18).bind fun v20_2 =>
  (aLoad false 1 st v20_2).bind fun v21_3 =>
  cnd x7
  ((aIaddr 1 x0 v21_3).bind fun v26_4 =>
  (aLoad false 1 st v26_4).bind fun v27_5 =>
  (aIaddr 1 v27_5 x6).bind fun v29_6 =>
  (aLoad false 1 st v29_6).bind fun v30_7 =>
  (aBin .add x18 (.int .i64 1)).bind fun v32_8 =>
  L.loop [0, 1, 5, 6, 7, 12, 13, 16, 17, 18] [0, 1, 4, 5, 6, 7, 12, 13] b_impl_extendsClique_2 [x0, x1, x5, x6, v30_7, x12, x13, x16, x17, v32_8] st)
  ((aBin .add x18 (.int .i64 1)).bind fun v32_9 =>
  L.loop [0, 1, 5, 6, 7, 12, 13, 16, 17, 18] [0, 1, 4, 5, 6, 7, 12, 13] b_impl_extendsClique_2 [x0, x1, x5, x6, (.bool false), x12, x13, x16, x17, v32_9] st))
  (some ((.exit 2), [x0, x1, .undef, x5, x6, x7, x12, x13], st)) := (lim_loop F _ _ _ _ _).trans (by kernel_rfl)

theorem k_impl_extendsClique_1_0 (o4 : AV) (o5 : AV) (st : St) : k_impl_extendsClique_1 ((.exit 0), [o4, o5], st) =
  (resTup st o5).bind fun r => some (r, st.n) := by kernel_rfl

theorem k_impl_extendsClique_2_2 (o0 : AV) (o1 : AV) (o4 : AV) (o5 : AV) (o6 : AV) (o7 : AV) (o12 : AV) (o13 : AV) (st : St) : k_impl_extendsClique_2 ((.exit 2), [o0, o1, o4, o5, o6, o7, o12, o13], st) =
  cnd o7
  (mkLit 1 1 (.int .i64 0) [(0, o6)] st fun v36_1 vs_2 =>
  (aApp 1 o5 v36_1 vs_2).bind fun v37_3 =>
  (aBin .add o13 (.int .i64 1)).bind fun v38_4 =>
  L.loop [0, 1, 5, 12, 13] [4, 5] b_impl_extendsClique_1 [o0, o1, v37_3.1, o12, v38_4] v37_3.2)
  ((aBin .add o13 (.int .i64 1)).bind fun v38_5 =>
  L.loop [0, 1, 5, 12, 13] [4, 5] b_impl_extendsClique_1 [o0, o1, o5, o12, v38_5] st) := by kernel_rfl

noncomputable def f_laws_szBoolS : IFn := (F i_laws_szBoolS).getD default

theorem call_laws_szBoolS (a0 : AV) (a1 : AV) (n : Nat) : L.call i_laws_szBoolS [a0, a1] n =
  (aLen a0).bind fun v7_1 =>
  (aBin .sub a1 v7_1).bind fun v8_2 =>
  (aBin .lss v8_2 (.int .i64 0)).bind fun v10_3 =>
  cnd v10_3
  ((resTup (st0 n) (.int .i64 (-1))).bind fun r => some (r, (st0 n).n))
  ((resTup (st0 n) v8_2).bind fun r => some (r, (st0 n).n)) := (lim_call F _ _ _).trans (by kernel_rfl)

noncomputable def f_spec_IsGraph : IFn := (F i_spec_IsGraph).getD default

noncomputable def b_spec_IsGraph_1 : ICode := loopAt f_spec_IsGraph.code 0

noncomputable def b_spec_IsGraph_2 : ICode := loopAt f_spec_IsGraph.code 1

noncomputable def b_spec_IsGraph_3 : ICode := loopAt f_spec_IsGraph.code 2

noncomputable def k_spec_IsGraph_1 : XT × List AV × St → Option (AV × Nat) := resK L f_spec_IsGraph.code [true, true, false, true] (callK f_spec_IsGraph.rs)

noncomputable def k_spec_IsGraph_2 : XT × List AV × St → Option (AV × Nat) := resK L f_spec_IsGraph.code [true, true, true, false, true] (callK f_spec_IsGraph.rs)

noncomputable def k_spec_IsGraph_3 : XT × List AV × St → Option (XT × List AV × St) := resK L b_spec_IsGraph_2 [true, true, false, true, true] (loopK L [0, 24, 25, 26] [2] b_spec_IsGraph_2)

theorem call_spec_IsGraph (a0 : AV) (n : Nat) : L.call i_spec_IsGraph [a0] n =
  (aLen a0).bind fun v10_1 =>
  (aBin .gtr v10_1 (.int .i64 12)).bind fun v11_2 =>
  cnd v11_2
  ((resTup (st0 n) (.bool false)).bind fun r => some (r, (st0 n).n))
  ((aLen a0).bind fun v13_3 =>
  (L.loop [0, 12, 13, 14] [0, 2] b_spec_IsGraph_1 [a0, a0, v13_3, (.int .i64 0)] (st0 n)).bind k_spec_IsGraph_1) := (lim_call F _ _ _).trans (by kernel_rfl)

theorem loop_spec_IsGraph_1 (x0 : AV) (x12 : AV) (x13 : AV) (x14 : AV) (st : St) : L.loop [0, 12, 13, 14] [0, 2] b_spec_IsGraph_1 [x0, x12, x13, x14] st =
  (aBin .lss x14 x13).bind fun v15_1 =>
  cnd v15_1
  ((aIaddr 1 x12 x14).bind fun v16_2 =>
  (aLoad false 1 st v16_2).bind fun v17_3 =>
  (aLen v17_3).bind fun v19_4 =>
  (aLen x0).bind fun v21_5 =>
  (aBin .neq v19_4 v21_5).bind fun v22_6 =>
  cnd v22_6
  (some (.ret, [x0, (.bool false)], st))
  ((aBin .add x14 (.int .i64 1)).bind fun v23_7 =>
  L.loop [0, 12, 13, 14] [0, 2] b_spec_IsGraph_1 [x0, x12, x13, v23_7] st))
  (some ((.exit 0), [x0, .undef], st)) := (lim_loop F _ _ _ _ _).trans (by kernel_rfl)

theorem loop_spec_IsGraph_2 (x0 : AV) (x24 : AV) (x25 : AV) (x26 : AV) (st : St) : L.loop [0, 24, 25, 26] [2] b_spec_IsGraph_2 [x0, x24, x25, x26] st =
  (aBin .lss x26 x25).bind fun v27_1 =>
  cnd v27_1
  ((aIaddr 1 x24 x26).bind fun v29_2 =>
  (aLoad false 1 st v29_2).bind fun v30_3 =>
  (aLen v30_3).bind fun v32_4 =>
  (L.loop [0, 5, 24, 25, 26, 31, 32, 33] [0, 2, 24, 25, 26] b_spec_IsGraph_3 [x0, x26, x24, x25, x26, v30_3, v32_4, (.int .i64 0)] st).bind k_spec_IsGraph_3)
  (some ((.exit 2), [.undef], st)) := (lim_loop F _ _ _ _ _).trans (by kernel_rfl)

theorem loop_spec_IsGraph_3 (x0 : AV) (x5 : AV) (x24 : AV) (x25 : AV) (x26 : AV) (x31 : AV) (x32 : AV) (x33 : AV) (st : St) : L.loop [0, 5, 24, 25, 26, 31, 32, 33] [0, 2, 24, 25, 26] b_spec_IsGraph_3 [x0, x5, x24, x25, x26, x31, x32, x33] st =
  (aBin .lss x33 x32).bind fun v34_1 =>
  cnd v34_1
  ((aIaddr 1 x31 x33).bind fun v36_2 =>
  (aLoad false 1 st v36_2).bind fun v37_3 =>
  cnd v37_3
  ((aBin .eql x5 x33).bind fun v42_4 =>
  cnd v42_4
  (some (.ret, [x0, (.bool false), x24, x25, x26], st))
  ((aIaddr 1 x0 x33).bind fun v48_5 =>
  (aLoad false 1 st v48_5).bind fun v49_6 =>
  (aIaddr 1 v49_6 x5).bind fun v51_7 =>
  (aLoad false 1 st v51_7).bind fun v52_8 =>
  (aBinb .neq v37_3 v52_8).bind fun v53_9 =>
  cnd v53_9
  (some (.ret, [x0, (.bool false), x24, x25, x26], st))
  ((aBin .add x33 (.int .i64 1)).bind fun v55_10 =>
  L.loop [0, 5, 24, 25, 26, 31, 32, 33] [0, 2, 24, 25, 26] b_spec_IsGraph_3 [x0, x5, x24, x25, x26, x31, x32, v55_10] st)))
  ((aIaddr 1 x0 x33).bind fun v48_11 =>
  (aLoad false 1 st v48_11).bind fun v49_12 =>
  (aIaddr 1 v49_12 x5).bind fun v51_13 =>
  (aLoad false 1 st v51_13).bind fun v52_14 =>
  (aBinb .neq v37_3 v52_14).bind fun v53_15 =>
  cnd v53_15
  (some (.ret, [x0, (.bool false), x24, x25, x26], st))
  ((aBin .add x33 (.int .i64 1)).bind fun v55_16 =>
  L.loop [0, 5, 24, 25, 26, 31, 32, 33] [0, 2, 24, 25, 26] b_spec_IsGraph_3 [x0, x5, x24, x25, x26, x31, x32, v55_16] st)))
  (some ((.exit 4), [x0, .undef, x24, x25, x26], st)) := (lim_loop F _ _ _ _ _).trans (by kernel_rfl)

theorem k_spec_IsGraph_1_ret (o0 : AV) (o2 : AV) (st : St) : k_spec_IsGraph_1 (.ret, [o0, o2], st) =
  (resTup st o2).bind fun r => some (r, st.n) := by kernel_rfl

theorem k_spec_IsGraph_1_0 (o0 : AV) (o2 : AV) (st : St) : k_spec_IsGraph_1 ((.exit 0), [o0, o2], st) =
  (aLen o0).bind fun v25_1 =>
  (L.loop [0, 24, 25, 26] [2] b_spec_IsGraph_2 [o0, o0, v25_1, (.int .i64 0)] st).bind k_spec_IsGraph_2 := by kernel_rfl

theorem k_spec_IsGraph_2_ret (o2 : AV) (st : St) : k_spec_IsGraph_2 (.ret, [o2], st) =
  (resTup st o2).bind fun r => some (r, st.n) := by kernel_rfl

theorem k_spec_IsGraph_2_2 (o2 : AV) (st : St) : k_spec_IsGraph_2 ((.exit 2), [o2], st) =
  (resTup st (.bool true)).bind fun r => some (r, st.n) := by kernel_rfl

theorem k_spec_IsGraph_3_ret (o0 : AV) (o2 : AV) (o24 : AV) (o25 : AV) (o26 : AV) (st : St) : k_spec_IsGraph_3 (.ret, [o0, o2, o24, o25, o26], st) =
  some (.ret, [o2], st) := by kernel_rfl

theorem k_spec_IsGraph_3_4 (o0 : AV) (o2 : AV) (o24 : AV) (o25 : AV) (o26 : AV) (st : St) : k_spec_IsGraph_3 ((.exit 4), [o0, o2, o24, o25, o26], st) =
  (aBin .add o26 (.int .i64 1)).bind fun v56_1 =>
  L.loop [0, 24, 25, 26] [2] b_spec_IsGraph_2 [o0, o24, o25, v56_1] st := by kernel_rfl

noncomputable def f_laws_toBoolS : IFn := (F i_laws_toBoolS).getD default

noncomputable def b_laws_toBoolS_1 : ICode := loopAt f_laws_toBoolS.code 0

noncomputable def k_laws_toBoolS_1 : XT × List AV × St → Option (AV × Nat) := resK L f_laws_toBoolS.code [true, true, false, true] (callK f_laws_toBoolS.rs)

theorem call_laws_toBoolS (a0 : AV) (n : Nat) : L.call i_laws_toBoolS [a0] n =
  (aLen a0).bind fun v6_1 =>
  mkMake 1 (.bool false) v6_1 v6_1 (st0 n) fun v7_2 vs_3 =>
  (L.loop [0, 3, 4] [2, 3] b_laws_toBoolS_1 [a0, v7_2, (.int .i64 0)] vs_3).bind k_laws_toBoolS_1 := (lim_call F _ _ _).trans (by kernel_rfl)

theorem loop_laws_toBoolS_1 (x0 : AV) (x3 : AV) (x4 : AV) (st : St) : L.loop [0, 3, 4] [2, 3] b_laws_toBoolS_1 [x0, x3, x4] st =
  (aLen x0).bind fun v10_1 =>
  (aBin .lss x4 v10_1).bind fun v11_2 =>
  cnd v11_2
  ((aIaddr 1 x0 x4).bind fun v18_3 =>
  (aLoad false 1 st v18_3).bind fun v19_4 =>
  (aIaddr 1 x3 x4).bind fun v20_5 =>
  (aStore 1 v20_5 v19_4 st).bind fun vs_6 =>
  (aBin .add x4 (.int .i64 1)).bind fun v13_7 =>
  L.loop [0, 3, 4] [2, 3] b_laws_toBoolS_1 [x0, x3, v13_7] vs_6)
  (some ((.exit 0), [.undef, x3], st)) := (lim_loop F _ _ _ _ _).trans (by kernel_rfl)

theorem k_laws_toBoolS_1_0 (o2 : AV) (o3 : AV) (st : St) : k_laws_toBoolS_1 ((.exit 0), [o2, o3], st) =
  (resTup st o3).bind fun r => some (r, st.n) := by kernel_rfl

noncomputable def f_laws_eqBoolS : IFn := (F i_laws_eqBoolS).getD default

noncomputable def b_laws_eqBoolS_1 : ICode := loopAt f_laws_eqBoolS.code 0

noncomputable def k_laws_eqBoolS_1 : XT × List AV × St → Option (AV × Nat) := resK L f_laws_eqBoolS.code [true, true, false, true] (callK f_laws_eqBoolS.rs)

theorem call_laws_eqBoolS (a0 : AV) (a1 : AV) (n : Nat) : L.call i_laws_eqBoolS [a0, a1] n =
  (aLen a0).bind fun v7_1 =>
  (aLen a1).bind fun v9_2 =>
  (aBin .neq v7_1 v9_2).bind fun v10_3 =>
  cnd v10_3
  ((resTup (st0 n) (.bool false)).bind fun r => some (r, (st0 n).n))
  ((L.loop [0, 1, 5] [4] b_laws_eqBoolS_1 [a0, a1, (.int .i64 0)] (st0 n)).bind k_laws_eqBoolS_1) := (lim_call F _ _ _).trans (by kernel_rfl)

theorem loop_laws_eqBoolS_1 (x0 : AV) (x1 : AV) (x5 : AV) (st : St) : L.loop [0, 1, 5] [4] b_laws_eqBoolS_1 [x0, x1, x5] st =
  (aLen x0).bind fun v13_1 =>
  (aBin .lss x5 v13_1).bind fun v14_2 =>
  cnd v14_2
  ((aIaddr 1 x0 x5).bind fun v19_3 =>
  (aLoad false 1 st v19_3).bind fun v20_4 =>
  (aIaddr 1 x1 x5).bind fun v23_5 =>
  (aLoad false 1 st v23_5).bind fun v24_6 =>
  (aBinb .neq v20_4 v24_6).bind fun v25_7 =>
  cnd v25_7
  (some (.ret, [(.bool false)], st))
  ((aBin .add x5 (.int .i64 1)).bind fun v16_8 =>
  L.loop [0, 1, 5] [4] b_laws_eqBoolS_1 [x0, x1, v16_8] st))
  (some ((.exit 0), [.undef], st)) := (lim_loop F _ _ _ _ _).trans (by kernel_rfl)

theorem k_laws_eqBoolS_1_ret (o4 : AV) (st : St) : k_laws_eqBoolS_1 (.ret, [o4], st) =
  (resTup st o4).bind fun r => some (r, st.n) := by kernel_rfl

theorem k_laws_eqBoolS_1_0 (o4 : AV) (st : St) : k_laws_eqBoolS_1 ((.exit 0), [o4], st) =
  (resTup st (.bool true)).bind fun r => some (r, st.n) := by kernel_rfl

noncomputable def f_spec_l22Count : IFn := (F i_spec_l22Count).getD default

noncomputable def b_spec_l22Count_1 : ICode := loopAt f_spec_l22Count.code 0

noncomputable def k_spec_l22Count_1 : XT × List AV × St → Option (AV × Nat) := resK L f_spec_l22Count.code [true, true, true, true, false, true] (callK f_spec_l22Count.rs)

theorem call_spec_l22Count (a0 : AV) (a1 : AV) (n : Nat) : L.call i_spec_l22Count [a0, a1] n =
  (clV L i_spec_ExtendsClique 0 [a0, a1] (st0 n)).bind fun v11_1 =>
  (aLen v11_1.1).bind fun v13_2 =>
  (aBin .eql v13_2 (.int .i64 0)).bind fun v14_3 =>
  cnd v14_3
  ((aLen v11_1.1).bind fun v16_4 =>
  (L.loop [0, 1, 5, 15, 16, 17] [4, 5] b_spec_l22Count_1 [a0, a1, (.int .i64 1), v11_1.1, v16_4, (.int .i64 0)] v11_1.2).bind k_spec_l22Count_1)
  ((aLen v11_1.1).bind fun v16_5 =>
  (L.loop [0, 1, 5, 15, 16, 17] [4, 5] b_spec_l22Count_1 [a0, a1, (.int .i64 0), v11_1.1, v16_5, (.int .i64 0)] v11_1.2).bind k_spec_l22Count_1) := (lim_call F _ _ _).trans (by kernel_rfl)

theorem loop_spec_l22Count_1 (x0 : AV) (x1 : AV) (x5 : AV) (x15 : AV) (x16 : AV) (x17 : AV) (st : St) : L.loop [0, 1, 5, 15, 16, 17] [4, 5] b_spec_l22Count_1 [x0, x1, x5, x15, x16, x17] st =
  (aBin .lss x17 x16).bind fun v18_1 =>
  cnd v18_1
  ((aIaddr 1 x15 x17).bind fun v19_2 =>
  (aLoad false 1 st v19_2).bind fun v20_3 =>
  (aLen x1).bind fun v22_4 =>
  (aBin .eql v22_4 (.int .i64 0)).bind fun v23_5 =>
  cnd v23_5
  ((aApp 1 .nils x1 st).bind fun v38_6 =>
  mkLit 1 1 (.int .i64 0) [(0, v20_3)] v38_6.2 fun v40_7 vs_8 =>
  (aApp 1 v38_6.1 v40_7 vs_8).bind fun v41_9 =>
  (clV L i_spec_l22Count 0 [x0, v41_9.1] v41_9.2).bind fun v42_10 =>
  (aBin .add x5 v42_10.1).bind fun v43_11 =>
  (aBin .add x17 (.int .i64 1)).bind fun v44_12 =>
  L.loop [0, 1, 5, 15, 16, 17] [4, 5] b_spec_l22Count_1 [x0, x1, v43_11, x15, x16, v44_12] v42_10.2)
  ((aLen x1).bind fun v28_13 =>
  (aBin .sub v28_13 (.int .i64 1)).bind fun v29_14 =>
  (aIaddr 1 x1 v29_14).bind fun v30_15 =>
  (aLoad false 1 st v30_15).bind fun v31_16 =>
  (aBin .gtr v20_3 v31_16).bind fun v32_17 =>
  cnd v32_17
  ((aApp 1 .nils x1 st).bind fun v38_18 =>
  mkLit 1 1 (.int .i64 0) [(0, v20_3)] v38_18.2 fun v40_19 vs_20 =>
  (aApp 1 v38_18.1 v40_19 vs_20).bind fun v41_21 =>
  (clV L i_spec_l22Count 0 [x0, v41_21.1] v41_21.2).bind fun v42_22 =>
  (aBin .add x5 v42_22.1).bind fun v43_23 =>
  (aBin .add x17 (.int .i64 1)).bind fun v44_24 =>
  L.loop [0, 1, 5, 15, 16, 17] [4, 5] b_spec_l22Count_1 [x0, x1, v43_23, x15, x16, v44_24] v42_22.2)
  ((aBin .add x17 (.int .i64 1)).bind fun v44_25 =>
  L.loop [0, 1, 5, 15, 16, 17] [4, 5] b_spec_l22Count_1 [x0, x1, x5, x15, x16, v44_25] st)))
  (some ((.exit 0), [.undef, x5], st)) := (lim_loop F _ _ _ _ _).trans (by kernel_rfl)

theorem k_spec_l22Count_1_0 (o4 : AV) (o5 : AV) (st : St) : k_spec_l22Count_1 ((.exit 0), [o4, o5], st) =
  (resTup st o5).bind fun r => some (r, st.n) := by kernel_rfl

noncomputable def f_spec_IsClique : IFn := (F i_spec_IsClique).getD default

noncomputable def b_spec_IsClique_1 : ICode := loopAt f_spec_IsClique.code 0

noncomputable def b_spec_IsClique_2 : ICode := loopAt f_spec_IsClique.code 1

noncomputable def k_spec_IsClique_1 : XT × List AV × St → Option (AV × Nat) := resK L f_spec_IsClique.code [true, true, false, true] (callK f_spec_IsClique.rs)

noncomputable def k_spec_IsClique_2 : XT × List AV × St → Option (XT × List AV × St) := resK L b_spec_IsClique_1 [true, true, false, true, true, true] (loopK L [0, 1, 12, 13, 14] [4] b_spec_IsClique_1)

theorem call_spec_IsClique (a0 : AV) (a1 : AV) (n : Nat) : L.call i_spec_IsClique [a0, a1] n =
  (clV L i_spec_IsGraph 0 [a0] (st0 n)).bind fun v10_1 =>
  (aUn .not v10_1.1).bind fun v11_2 =>
  cnd v11_2
  ((resTup v10_1.2 (.bool false)).bind fun r => some (r, v10_1.2.n))
  ((aLen a1).bind fun v13_3 =>
  (L.loop [0, 1, 12, 13, 14] [4] b_spec_IsClique_1 [a0, a1, a1, v13_3, (.int .i64 0)] v10_1.2).bind k_spec_IsClique_1) := (lim_call F _ _ _).trans (by kernel_rfl)

theorem loop_spec_IsClique_1 (x0 : AV) (x1 : AV) (x12 : AV) (x13 : AV) (x14 : AV) (st : St) : L.loop [0, 1, 12, 13, 14] [4] b_spec_IsClique_1 [x0, x1, x12, x13, x14] st =
  (aBin .lss x14 x13).bind fun v15_1 =>
  cnd v15_1
  ((aIaddr 1 x12 x14).bind fun v17_2 =>
  (aLoad false 1 st v17_2).bind fun v18_3 =>
  (aLen x0).bind fun v21_4 =>
  (aBin .sub v21_4 (.int .i64 1)).bind fun v22_5 =>
  (clV L i_spec_l01In 0 [v18_3, (.int .i64 0), v22_5] st).bind fun v23_6 =>
  (aUn .not v23_6.1).bind fun v24_7 =>
  cnd v24_7
  (some (.ret, [(.bool false)], v23_6.2))
  ((aSlc 1 x1 none (some x14)).bind fun v27_8 =>
  (aLen v27_8).bind fun v28_9 =>
  (L.loop [0, 1, 6, 12, 13, 14, 27, 28, 29] [0, 1, 4, 12, 13, 14] b_spec_IsClique_2 [x0, x1, v18_3, x12, x13, x14, v27_8, v28_9, (.int .i64 0)] v23_6.2).bind k_spec_IsClique_2))
  (some ((.exit 0), [.undef], st)) := (lim_loop F _ _ _ _ _).trans (by kernel_rfl)

theorem loop_spec_IsClique_2 (x0 : AV) (x1 : AV) (x6 : AV) (x12 : AV) (x13 : AV) (x14 : AV) (x27 : AV) (x28 : AV) (x29 : AV) (st : St) : L.loop [0, 1, 6, 12, 13, 14, 27, 28, 29] [0, 1, 4, 12, 13, 14] b_spec_IsClique_2 [x0, x1, x6, x12, x13, x14, x27, x28, x29] st =
  (aBin .lss x29 x28).bind fun v30_1 =>
  cnd v30_1
  ((aIaddr 1 x27 x29).bind fun v31_2 =>
  (aLoad false 1 st v31_2).bind fun v32_3 =>
  (aBin .geq v32_3 x6).bind fun v35_4 =>
  cnd v35_4
  (some (.ret, [x0, x1, (.bool false), x12, x13, x14], st))
  ((aIaddr 1 x0 x6).bind fun v39_5 =>
  (aLoad false 1 st v39_5).bind fun v40_6 =>
  (aIaddr 1 v40_6 v32_3).bind fun v42_7 =>
  (aLoad false 1 st v42_7).bind fun v43_8 =>
  (aUn .not v43_8).bind fun v44_9 =>
  cnd v44_9
  (some (.ret, [x0, x1, (.bool false), x12, x13, x14], st))
  ((aBin .add x29 (.int .i64 1)).bind fun v46_10 =>
  L.loop [0, 1, 6, 12, 13, 14, 27, 28, 29] [0, 1, 4, 12, 13, 14] b_spec_IsClique_2 [x0, x1, x6, x12, x13, x14, x27, x28, v46_10] st)))
  (some ((.exit 2), [x0, x1, .undef, x12, x13, x14], st)) := (lim_loop F _ _ _ _ _).trans (by kernel_rfl)

theorem k_spec_IsClique_1_ret (o4 : AV) (st : St) : k_spec_IsClique_1 (.ret, [o4], st) =
  (resTup st o4).bind fun r => some (r, st.n) := by kernel_rfl

theorem k_spec_IsClique_1_0 (o4 : AV) (st : St) : k_spec_IsClique_1 ((.exit 0), [o4], st) =
  (resTup st (.bool true)).bind fun r => some (r, st.n) := by kernel_rfl

theorem k_spec_IsClique_2_ret (o0 : AV) (o1 : AV) (o4 : AV) (o12 : AV) (o13 : AV) (o14 : AV) (st : St) : k_spec_IsClique_2 (.ret, [o0, o1, o4, o12, o13, o14], st) =
  some (.ret, [o4], st) := by kernel_rfl

theorem k_spec_IsClique_2_2 (o0 : AV) (o1 : AV) (o4 : AV) (o12 : AV) (o13 : AV) (o14 : AV) (st : St) : k_spec_IsClique_2 ((.exit 2), [o0, o1, o4, o12, o13, o14], st) =
  (aBin .add o14 (.int .i64 1)).bind fun v47_1 =>
  L.loop [0, 1, 12, 13, 14] [4] b_spec_IsClique_1 [o0, o1, o12, o13, v47_1] st := by kernel_rfl

noncomputable def f_spec_l01In : IFn := (F i_spec_l01In).getD default

theorem call_spec_l01In (a0 : AV) (a1 : AV) (a2 : AV) (n : Nat) : L.call i_spec_l01In [a0, a1, a2] n =
  (aBin .geq a0 a1).bind fun v9_1 =>
  cnd v9_1
  ((aBin .leq a0 a2).bind fun v13_2 =>
  (resTup (st0 n) v13_2).bind fun r => some (r, (st0 n).n))
  ((resTup (st0 n) (.bool false)).bind fun r => some (r, (st0 n).n)) := (lim_call F _ _ _).trans (by kernel_rfl)

end Go.Proofs.YtpjddmfcikelcaaFw
