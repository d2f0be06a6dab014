/- The equations of the seat's functions, printed out of its code. Conditions: none beside each theorem's own. -/
import Derived.Test.YtilbmpdeginabaaEq
namespace Go.Proofs.YtilbmpdeginabaaFw
open Go
set_option maxRecDepth 20000

abbrev i_laws_FnExactIsGraph : Nat := 4
abbrev i_laws_szBoolSS : Nat := 12
abbrev i_spec_IsGraph : Nat := 13
abbrev i_laws_toBoolSS : Nat := 14
abbrev i_impl_IsGraph : Nat := 15
abbrev i_laws_eqBoolSS : Nat := 16
abbrev i_laws_szBoolS : Nat := 34
abbrev i_laws_toBoolS : Nat := 35
abbrev i_laws_eqBoolS : Nat := 36

noncomputable def f_laws_FnExactIsGraph : IFn := (F i_laws_FnExactIsGraph).getD default

theorem call_laws_FnExactIsGraph (a0 : AV) (n : Nat) : L.call i_laws_FnExactIsGraph [a0] n =
  (clV L i_laws_szBoolSS 0 [a0, (.int .i64 1048576)] (st0 n)).bind fun v9_1 =>
  (aBin .lss v9_1.1 (.int .i64 0)).bind fun v11_2 =>
  cnd v11_2
  ((resTup v9_1.2 (.bool true)).bind fun r => some (r, v9_1.2.n))
  ((clV L i_laws_toBoolSS 0 [a0] v9_1.2).bind fun v13_3 =>
  (clV L i_spec_IsGraph 0 [v13_3.1] v13_3.2).bind fun v14_4 =>
  (clV L i_laws_toBoolSS 0 [a0] v14_4.2).bind fun v16_5 =>
  (clV L i_impl_IsGraph 0 [v16_5.1] v16_5.2).bind fun v18_6 =>
  (aBinb .neq v18_6.1 v14_4.1).bind fun v21_7 =>
  cnd v21_7
  ((resTup v18_6.2 (.bool false)).bind fun r => some (r, v18_6.2.n))
  ((clV L i_laws_toBoolSS 0 [a0] v18_6.2).bind fun v24_8 =>
  (clV L i_laws_eqBoolSS 0 [v16_5.1, v24_8.1] v24_8.2).bind fun v25_9 =>
  (aUn .not v25_9.1).bind fun v26_10 =>
  cnd v26_10
  ((resTup v25_9.2 (.bool false)).bind fun r => some (r, v25_9.2.n))
  ((resTup v25_9.2 (.bool true)).bind fun r => some (r, v25_9.2.n)))) := (lim_call F _ _ _).trans (by kernel_rfl)

noncomputable def f_laws_szBoolSS : IFn := (F i_laws_szBoolSS).getD default

noncomputable def b_laws_szBoolSS_1 : ICode := loopAt f_laws_szBoolSS.code 0

noncomputable def k_laws_szBoolSS_1 : XT × List AV × St → Option (AV × Nat) := resK L f_laws_szBoolSS.code [true, true, true, false, true] (callK f_laws_szBoolSS.rs)

theorem call_laws_szBoolSS (a0 : AV) (a1 : AV) (n : Nat) : L.call i_laws_szBoolSS [a0, a1] n =
  (aLen a0).bind fun v8_1 =>
  (aBin .sub a1 v8_1).bind fun v9_2 =>
  (aBin .lss v9_2 (.int .i64 0)).bind fun v11_3 =>
  cnd v11_3
  ((resTup (st0 n) (.int .i64 (-1))).bind fun r => some (r, (st0 n).n))
  ((L.loop [0, 1, 5] [1, 4] b_laws_szBoolSS_1 [a0, v9_2, (.int .i64 0)] (st0 n)).bind k_laws_szBoolSS_1) := (lim_call F _ _ _).trans (by kernel_rfl)

theorem loop_laws_szBoolSS_1 (x0 : AV) (x1 : AV) (x5 : AV) (st : St) : L.loop [0, 1, 5] [1, 4] b_laws_szBoolSS_1 [x0, x1, x5] st =
  (aLen x0).bind fun v14_1 =>
  (aBin .lss x5 v14_1).bind fun v15_2 =>
  cnd v15_2
  ((aIaddr 1 x0 x5).bind fun v20_3 =>
  (aLoad false 1 st v20_3).bind fun v21_4 =>
  (clV L i_laws_szBoolS 0 [v21_4, x1] st).bind fun v23_5 =>
  (aBin .lss v23_5.1 (.int .i64 0)).bind fun v25_6 =>
  cnd v25_6
  (some (.ret, [v23_5.1, (.int .i64 (-1))], v23_5.2))
  ((aBin .add x5 (.int .i64 1)).bind fun v17_7 =>
  L.loop [0, 1, 5] [1, 4] b_laws_szBoolSS_1 [x0, v23_5.1, v17_7] v23_5.2))
  (some ((.exit 0), [x1, .undef], st)) := (lim_loop F _ _ _ _ _).trans (by kernel_rfl)

theorem k_laws_szBoolSS_1_ret (o1 : AV) (o4 : AV) (st : St) : k_laws_szBoolSS_1 (.ret, [o1, o4], st) =
  (resTup st o4).bind fun r => some (r, st.n) := by kernel_rfl

theorem k_laws_szBoolSS_1_0 (o1 : AV) (o4 : AV) (st : St) : k_laws_szBoolSS_1 ((.exit 0), [o1, o4], st) =
  (resTup st o1).bind fun r => some (r, st.n) := by kernel_rfl

noncomputable def f_spec_IsGraph : IFn := (F i_spec_IsGraph).getD default

noncomputable def b_spec_IsGraph_1 : ICode := loopAt f_spec_IsGraph.code 0

noncomputable def b_spec_IsGraph_2 : ICode := loopAt f_spec_IsGraph.code 1

noncomputable def b_spec_IsGraph_3 : ICode := loopAt f_spec_IsGraph.code 2

noncomputable def k_spec_IsGraph_1 : XT × List AV × St → Option (AV × Nat) := resK L f_spec_IsGraph.code [true, true, false, true] (callK f_spec_IsGraph.rs)

noncomputable def k_spec_IsGraph_2 : XT × List AV × St → Option (AV × Nat) := resK L f_spec_IsGraph.code [true, true, true, false, true] (callK f_spec_IsGraph.rs)

noncomputable def k_spec_IsGraph_3 : XT × List AV × St → Option (XT × List AV × St) := resK L b_spec_IsGraph_2 [true, true, false, true, true] (loopK L [0, 24, 25, 26] [2] b_spec_IsGraph_2)

theorem call_spec_IsGraph (a0 : AV) (n : Nat) : L.call i_spec_IsGraph [a0] n =
  (aLen a0).bind fun v10_1 =>
  (aBin .gtr v10_1 (.int .i64 12)).bind fun v11_2 =>
  cnd v11_2
  ((resTup (st0 n) (.bool false)).bind fun r => some (r, (st0 n).n))
  ((aLen a0).bind fun v13_3 =>
  (L.loop [0, 12, 13, 14] [0, 2] b_spec_IsGraph_1 [a0, a0, v13_3, (.int .i64 0)] (st0 n)).bind k_spec_IsGraph_1) := (lim_call F _ _ _).trans (by kernel_rfl)

theorem loop_spec_IsGraph_1 (x0 : AV) (x12 : AV) (x13 : AV) (x14 : AV) (st : St) : L.loop [0, 12, 13, 14] [0, 2] b_spec_IsGraph_1 [x0, x12, x13, x14] st =
  (aBin .lss x14 x13).bind fun v15_1 =>
  cnd v15_1
  ((aIaddr 1 x12 x14).bind fun v16_2 =>
  (aLoad false 1 st v16_2).bind fun v17_3 =>
  (aLen v17_3).bind fun v19_4 =>
  (aLen x0).bind fun v21_5 =>
  (aBin .neq v19_4 v21_5).bind fun v22_6 =>
  cnd v22_6
  (some (.ret, [x0, (.bool false)], st))
  ((aBin .add x14 (.int .i64 1)).bind fun v23_7 =>
  L.loop [0, 12, 13, 14] [0, 2] b_spec_IsGraph_1 [x0, x12, x13, v23_7] st))
  (some ((.exit 0), [x0, .undef], st)) := (lim_loop F _ _ _ _ _).trans (by kernel_rfl)

theorem loop_spec_IsGraph_2 (x0 : AV) (x24 : AV) (x25 : AV) (x26 : AV) (st : St) : L.loop [0, 24, 25, 26] [2] b_spec_IsGraph_2 [x0, x24, x25, x26] st =
  (aBin .lss x26 x25).bind fun v27_1 =>
  cnd v27_1
  ((aIaddr 1 x24 x26).bind fun v29_2 =>
  (aLoad false 1 st v29_2).bind fun v30_3 =>
  (aLen v30_3).bind fun v32_4 =>
  (L.loop [0, 5, 24, 25, 26, 31, 32, 33] [0, 2, 24, 25, 26] b_spec_IsGraph_3 [x0, x26, x24, x25, x26, v30_3, v32_4, (.int .i64 0)] st).bind k_spec_IsGraph_3)
  (some ((.exit 2), [.undef], st)) := (lim_loop F _ _ _ _ _).trans (by kernel_rfl)

theorem loop_spec_IsGraph_3 (x0 : AV) (x5 : AV) (x24 : AV) (x25 : AV) (x26 : AV) (x31 : AV) (x32 : AV) (x33 : AV) (st : St) : L.loop [0, 5, 24, 25, 26, 31, 32, 33] [0, 2, 24, 25, 26] b_spec_IsGraph_3 [x0, x5, x24, x25, x26, x31, x32, x33] st =
  (aBin .lss x33 x32).bind fun v34_1 =>
  cnd v34_1
  ((aIaddr 1 x31 x33).bind fun v36_2 =>
  (aLoad false 1 st v36_2).bind fun v37_3 =>
  cnd v37_3
  ((aBin .eql x5 x33).bind fun v42_4 =>
  cnd v42_4
  (some (.ret, [x0, (.bool false), x24, x25, x26], st))
  ((aIaddr 1 x0 x33).bind fun v48_5 =>
  (aLoad false 1 st v48_5).bind fun v49_6 =>
  (aIaddr 1 v49_6 x5).bind fun v51_7 =>
  (aLoad false 1 st v51_7).bind fun v52_8 =>
  (aBinb .neq v37_3 v52_8).bind fun v53_9 =>
  cnd v53_9
  (some (.ret, [x0, (.bool false), x24, x25, x26], st))
  ((aBin .add x33 (.int .i64 1)).bind fun v55_10 =>
  L.loop [0, 5, 24, 25, 26, 31, 32, 33] [0, 2, 24, 25, 26] b_spec_IsGraph_3 [x0, x5, x24, x25, x26, x31, x32, v55_10] st)))
  ((aIaddr 1 x0 x33).bind fun v48_11 =>
  (aLoad false 1 st v48_11).bind fun v49_12 =>
  (aIaddr 1 v49_12 x5).bind fun v51_13 =>
  (aLoad false 1 st v51_13).bind fun v52_14 =>
  (aBinb .neq v37_3 v52_14).bind fun v53_15 =>
  cnd v53_15
  (some (.ret, [x0, (.bool false), x24, x25, x26], st))
  ((aBin .add x33 (.int .i64 1)).bind fun v55_16 =>
  L.loop [0, 5, 24, 25, 26, 31, 32, 33] [0, 2, 24, 25, 26] b_spec_IsGraph_3 [x0, x5, x24, x25, x26, x31, x32, v55_16] st)))
  (some ((.exit 4), [x0, .undef, x24, x25, x26], st)) := (lim_loop F _ _ _ _ _).trans (by kernel_rfl)

theorem k_spec_IsGraph_1_ret (o0 : AV) (o2 : AV) (st : St) : k_spec_IsGraph_1 (.ret, [o0, o2], st) =
  (resTup st o2).bind fun r => some (r, st.n) := by kernel_rfl

theorem k_spec_IsGraph_1_0 (o0 : AV) (o2 : AV) (st : St) : k_spec_IsGraph_1 ((.exit 0), [o0, o2], st) =
  (aLen o0).bind fun v25_1 =>
  (L.loop [0, 24, 25, 26] [2] b_spec_IsGraph_2 [o0, o0, v25_1, (.int .i64 0)] st).bind k_spec_IsGraph_2 := by kernel_rfl

theorem k_spec_IsGraph_2_ret (o2 : AV) (st : St) : k_spec_IsGraph_2 (.ret, [o2], st) =
  (resTup st o2).bind fun r => some (r, st.n) := by kernel_rfl

theorem k_spec_IsGraph_2_2 (o2 : AV) (st : St) : k_spec_IsGraph_2 ((.exit 2), [o2], st) =
  (resTup st (.bool true)).bind fun r => some (r, st.n) := by kernel_rfl

theorem k_spec_IsGraph_3_ret (o0 : AV) (o2 : AV) (o24 : AV) (o25 : AV) (o26 : AV) (st : St) : k_spec_IsGraph_3 (.ret, [o0, o2, o24, o25, o26], st) =
  some (.ret, [o2], st) := by kernel_rfl

theorem k_spec_IsGraph_3_4 (o0 : AV) (o2 : AV) (o24 : AV) (o25 : AV) (o26 : AV) (st : St) : k_spec_IsGraph_3 ((.exit 4), [o0, o2, o24, o25, o26], st) =
  (aBin .add o26 (.int .i64 1)).bind fun v56_1 =>
  L.loop [0, 24, 25, 26] [2] b_spec_IsGraph_2 [o0, o24, o25, v56_1] st := by kernel_rfl

noncomputable def f_laws_toBoolSS : IFn := (F i_laws_toBoolSS).getD default

noncomputable def b_laws_toBoolSS_1 : ICode := loopAt f_laws_toBoolSS.code 0

noncomputable def k_laws_toBoolSS_1 : XT × List AV × St → Option (AV × Nat) := resK L f_laws_toBoolSS.code [true, true, false, true] (callK f_laws_toBoolSS.rs)

theorem call_laws_toBoolSS (a0 : AV) (n : Nat) : L.call i_laws_toBoolSS [a0] n =
  (aLen a0).bind fun v6_1 =>
  mkMake 1 .nils v6_1 v6_1 (st0 n) fun v7_2 vs_3 =>
  (L.loop [0, 3, 4] [2, 3] b_laws_toBoolSS_1 [a0, v7_2, (.int .i64 0)] vs_3).bind k_laws_toBoolSS_1 := (lim_call F _ _ _).trans (by kernel_rfl)

theorem loop_laws_toBoolSS_1 (x0 : AV) (x3 : AV) (x4 : AV) (st : St) : L.loop [0, 3, 4] [2, 3] b_laws_toBoolSS_1 [x0, x3, x4] st =
  (aLen x0).bind fun v10_1 =>
  (aBin .lss x4 v10_1).bind fun v11_2 =>
  cnd v11_2
  ((aIaddr 1 x0 x4).bind fun v18_3 =>
  (aLoad false 1 st v18_3).bind fun v19_4 =>
  (clV L i_laws_toBoolS 0 [v19_4] st).bind fun v20_5 =>
  (aIaddr 1 x3 x4).bind fun v21_6 =>
  (aStore 1 v21_6 v20_5.1 v20_5.2).bind fun vs_7 =>
  (aBin .add x4 (.int .i64 1)).bind fun v13_8 =>
  L.loop [0, 3, 4] [2, 3] b_laws_toBoolSS_1 [x0, x3, v13_8] vs_7)
  (some ((.exit 0), [.undef, x3], st)) := (lim_loop F _ _ _ _ _).trans (by kernel_rfl)

theorem k_laws_toBoolSS_1_0 (o2 : AV) (o3 : AV) (st : St) : k_laws_toBoolSS_1 ((.exit 0), [o2, o3], st) =
  (resTup st o3).bind fun r => some (r, st.n) := by kernel_rfl

noncomputable def f_impl_IsGraph : IFn := (F i_impl_IsGraph).getD default

noncomputable def b_impl_IsGraph_1 : ICode := loopAt f_impl_IsGraph.code 0

noncomputable def b_impl_IsGraph_2 : ICode := loopAt f_impl_IsGraph.code 1

noncomputable def b_impl_IsGraph_3 : ICode := loopAt f_impl_IsGraph.code 2

noncomputable def k_impl_IsGraph_1 : XT × List AV × St → Option (AV × Nat) := resK L f_impl_IsGraph.code [true, true, true, false, true] (callK f_impl_IsGraph.rs)

noncomputable def k_impl_IsGraph_2 : XT × List AV × St → Option (AV × Nat) := resK L f_impl_IsGraph.code [true, true, true, true, false, true] (callK f_impl_IsGraph.rs)

noncomputable def k_impl_IsGraph_3 : XT × List AV × St → Option (XT × List AV × St) := resK L b_impl_IsGraph_2 [true, true, false, true, true] (loopK L [0, 25, 26, 27] [2] b_impl_IsGraph_2)

theorem call_impl_IsGraph (a0 : AV) (n : Nat) : L.call i_impl_IsGraph [a0] n =
  (aLen a0).bind fun v11_1 =>
  (aBin .gtr v11_1 (.int .i64 12)).bind fun v13_2 =>
  cnd v13_2
  ((resTup (st0 n) (.bool false)).bind fun r => some (r, (st0 n).n))
  ((aLen a0).bind fun v15_3 =>
  (L.loop [0, 3, 14, 15, 16] [0, 2] b_impl_IsGraph_1 [a0, v11_1, a0, v15_3, (.int .i64 0)] (st0 n)).bind k_impl_IsGraph_1) := (lim_call F _ _ _).trans (by kernel_rfl)

theorem loop_impl_IsGraph_1 (x0 : AV) (x3 : AV) (x14 : AV) (x15 : AV) (x16 : AV) (st : St) : L.loop [0, 3, 14, 15, 16] [0, 2] b_impl_IsGraph_1 [x0, x3, x14, x15, x16] st =
  (aBin .lss x16 x15).bind fun v17_1 =>
  cnd v17_1
  ((aIaddr 1 x14 x16).bind fun v18_2 =>
  (aLoad false 1 st v18_2).bind fun v19_3 =>
  (aLen v19_3).bind fun v21_4 =>
  (aBin .neq v21_4 x3).bind fun v23_5 =>
  cnd v23_5
  (some (.ret, [x0, (.bool false)], st))
  ((aBin .add x16 (.int .i64 1)).bind fun v24_6 =>
  L.loop [0, 3, 14, 15, 16] [0, 2] b_impl_IsGraph_1 [x0, x3, x14, x15, v24_6] st))
  (some ((.exit 0), [x0, .undef], st)) := (lim_loop F _ _ _ _ _).trans (by kernel_rfl)

theorem loop_impl_IsGraph_2 (x0 : AV) (x25 : AV) (x26 : AV) (x27 : AV) (st : St) : L.loop [0, 25, 26, 27] [2] b_impl_IsGraph_2 [x0, x25, x26, x27] st =
  (aBin .lss x27 x26).bind fun v28_1 =>
  cnd v28_1
  ((aIaddr 1 x25 x27).bind fun v30_2 =>
  (aLoad false 1 st v30_2).bind fun v31_3 =>
  (aLen v31_3).bind fun v33_4 =>
  (L.loop [0, 6, 25, 26, 27, 32, 33, 34] [0, 2, 25, 26, 27] b_impl_IsGraph_3 [x0, x27, x25, x26, x27, v31_3, v33_4, (.int .i64 0)] st).bind k_impl_IsGraph_3)
  (some ((.exit 2), [.undef], st)) := (lim_loop F _ _ _ _ _).trans (by kernel_rfl)

theorem loop_impl_IsGraph_3 (x0 : AV) (x6 : AV) (x25 : AV) (x26 : AV) (x27 : AV) (x32 : AV) (x33 : AV) (x34 : AV) (st : St) : L.loop [0, 6, 25, 26, 27, 32, 33, 34] [0, 2, 25, 26, 27] b_impl_IsGraph_3 [x0, x6, x25, x26, x27, x32, x33, x34] st =
  (aBin .lss x34 x33).bind fun v35_1 =>
  cnd v35_1
  ((aIaddr 1 x32 x34).bind fun v37_2 =>
  (aLoad false 1 st v37_2).bind fun v38_3 =>
  cnd v38_3
  ((aBin .eql x6 x34).bind fun v43_4 =>
  cnd v43_4
  (some (.ret, [x0, (.bool false), x25, x26, x27], st))
  ((aIaddr 1 x0 x34).bind fun v49_5 =>
  (aLoad false 1 st v49_5).bind fun v50_6 =>
  (aIaddr 1 v50_6 x6).bind fun v52_7 =>
  (aLoad false 1 st v52_7).bind fun v53_8 =>
  (aBinb .neq v38_3 v53_8).bind fun v54_9 =>
  cnd v54_9
  (some (.ret, [x0, (.bool false), x25, x26, x27], st))
  ((aBin .add x34 (.int .i64 1)).bind fun v56_10 =>
  L.loop [0, 6, 25, 26, 27, 32, 33, 34] [0, 2, 25, 26, 27] b_impl_IsGraph_3 [x0, x6, x25, x26, x27, x32, x33, v56_10] st)))
  ((aIaddr 1 x0 x34).bind fun v49_11 =>
  (aLoad false 1 st v49_11).bind fun v50_12 =>
  (aIaddr 1 v50_12 x6).bind fun v52_13 =>
  (aLoad false 1 st v52_13).bind fun v53_14 =>
  (aBinb .neq v38_3 v53_14).bind fun v54_15 =>
  cnd v54_15
  (some (.ret, [x0, (.bool false), x25, x26, x27], st))
  ((aBin .add x34 (.int .i64 1)).bind fun v56_16 =>
  L.loop [0, 6, 25, 26, 27, 32, 33, 34] [0, 2, 25, 26, 27] b_impl_IsGraph_3 [x0, x6, x25, x26, x27, x32, x33, v56_16] st)))
  (some ((.exit 4), [x0, .undef, x25, x26, x27], st)) := (lim_loop F _ _ _ _ _).trans (by kernel_rfl)

theorem k_impl_IsGraph_1_ret (o0 : AV) (o2 : AV) (st : St) : k_impl_IsGraph_1 (.ret, [o0, o2], st) =
  (resTup st o2).bind fun r => some (r, st.n) := by kernel_rfl

theorem k_impl_IsGraph_1_0 (o0 : AV) (o2 : AV) (st : St) : k_impl_IsGraph_1 ((.exit 0), [o0, o2], st) =
  (aLen o0).bind fun v26_1 =>
  (L.loop [0, 25, 26, 27] [2] b_impl_IsGraph_2 [o0, o0, v26_1, (.int .i64 0)] st).bind k_impl_IsGraph_2 := by kernel_rfl

theorem k_impl_IsGraph_2_ret (o2 : AV) (st : St) : k_impl_IsGraph_2 (.ret, [o2], st) =
  (resTup st o2).bind fun r => some (r, st.n) := by kernel_rfl

theorem k_impl_IsGraph_2_2 (o2 : AV) (st : St) : k_impl_IsGraph_2 ((.exit 2), [o2], st) =
  (resTup st (.bool true)).bind fun r => some (r, st.n) := by kernel_rfl

theorem k_impl_IsGraph_3_ret (o0 : AV) (o2 : AV) (o25 : AV) (o26 : AV) (o27 : AV) (st : St) : k_impl_IsGraph_3 (.ret, [o0, o2, o25, o26, o27], st) =
  some (.ret, [o2], st) := by kernel_rfl

theorem k_impl_IsGraph_3_4 (o0 : AV) (o2 : AV) (o25 : AV) (o26 : AV) (o27 : AV) (st : St) : k_impl_IsGraph_3 ((.exit 4), [o0, o2, o25, o26, o27], st) =
  (aBin .add o27 (.int .i64 1)).bind fun v57_1 =>
  L.loop [0, 25, 26, 27] [2] b_impl_IsGraph_2 [o0, o25, o26, v57_1] st := by kernel_rfl

noncomputable def f_laws_eqBoolSS : IFn := (F i_laws_eqBoolSS).getD default

noncomputable def b_laws_eqBoolSS_1 : ICode := loopAt f_laws_eqBoolSS.code 0

noncomputable def k_laws_eqBoolSS_1 : XT × List AV × St → Option (AV × Nat) := resK L f_laws_eqBoolSS.code [true, true, false, true] (callK f_laws_eqBoolSS.rs)

theorem call_laws_eqBoolSS (a0 : AV) (a1 : AV) (n : Nat) : L.call i_laws_eqBoolSS [a0, a1] n =
  (aLen a0).bind fun v7_1 =>
  (aLen a1).bind fun v9_2 =>
  (aBin .neq v7_1 v9_2).bind fun v10_3 =>
  cnd v10_3
  ((resTup (st0 n) (.bool false)).bind fun r => some (r, (st0 n).n))
  ((L.loop [0, 1, 5] [4] b_laws_eqBoolSS_1 [a0, a1, (.int .i64 0)] (st0 n)).bind k_laws_eqBoolSS_1) := (lim_call F _ _ _).trans (by kernel_rfl)

theorem loop_laws_eqBoolSS_1 (x0 : AV) (x1 : AV) (x5 : AV) (st : St) : L.loop [0, 1, 5] [4] b_laws_eqBoolSS_1 [x0, x1, x5] st =
  (aLen x0).bind fun v13_1 =>
  (aBin .lss x5 v13_1).bind fun v14_2 =>
  cnd v14_2
  ((aIaddr 1 x0 x5).bind fun v19_3 =>
  (aLoad false 1 st v19_3).bind fun v20_4 =>
  (aIaddr 1 x1 x5).bind fun v23_5 =>
  (aLoad false 1 st v23_5).bind fun v24_6 =>
  (clV L i_laws_eqBoolS 0 [v20_4, v24_6] st).bind fun v25_7 =>
  (aUn .not v25_7.1).bind fun v26_8 =>
  cnd v26_8
  (some (.ret, [(.bool false)], v25_7.2))
  ((aBin .add x5 (.int .i64 1)).bind fun v16_9 =>
  L.loop [0, 1, 5] [4] b_laws_eqBoolSS_1 [x0, x1, v16_9] v25_7.2))
  (some ((.exit 0), [.undef], st)) := (lim_loop F _ _ _ _ _).trans (by kernel_rfl)

theorem k_laws_eqBoolSS_1_ret (o4 : AV) (st : St) : k_laws_eqBoolSS_1 (.ret, [o4], st) =
  (resTup st o4).bind fun r => some (r, st.n) := by kernel_rfl

theorem k_laws_eqBoolSS_1_0 (o4 : AV) (st : St) : k_laws_eqBoolSS_1 ((.exit 0), [o4], st) =
  (resTup st (.bool true)).bind fun r => some (r, st.n) := by kernel_rfl

noncomputable def f_laws_szBoolS : IFn := (F i_laws_szBoolS).getD default

theorem call_laws_szBoolS (a0 : AV) (a1 : AV) (n : Nat) : L.call i_laws_szBoolS [a0, a1] n =
  (aLen a0).bind fun v7_1 =>
  (aBin .sub a1 v7_1).bind fun v8_2 =>
  (aBin .lss v8_2 (.int .i64 0)).bind fun v10_3 =>
  cnd v10_3
  ((resTup (st0 n) (.int .i64 (-1))).bind fun r => some (r, (st0 n).n))
  ((resTup (st0 n) v8_2).bind fun r => some (r, (st0 n).n)) := (lim_call F _ _ _).trans (by kernel_rfl)

noncomputable def f_laws_toBoolS : IFn := (F i_laws_toBoolS).getD default

noncomputable def b_laws_toBoolS_1 : ICode := loopAt f_laws_toBoolS.code 0

noncomputable def k_laws_toBoolS_1 : XT × List AV × St → Option (AV × Nat) := resK L f_laws_toBoolS.code [true, true, false, true] (callK f_laws_toBoolS.rs)

theorem call_laws_toBoolS (a0 : AV) (n : Nat) : L.call i_laws_toBoolS [a0] n =
  (aLen a0).bind fun v6_1 =>
  mkMake 1 (.bool false) v6_1 v6_1 (st0 n) fun v7_2 vs_3 =>
  (L.loop [0, 3, 4] [2, 3] b_laws_toBoolS_1 [a0, v7_2, (.int .i64 0)] vs_3).bind k_laws_toBoolS_1 := (lim_call F _ _ _).trans (by kernel_rfl)

theorem loop_laws_toBoolS_1 (x0 : AV) (x3 : AV) (x4 : AV) (st : St) : L.loop [0, 3, 4] [2, 3] b_laws_toBoolS_1 [x0, x3, x4] st =
  (aLen x0).bind fun v10_1 =>
  (aBin .lss x4 v10_1).bind fun v11_2 =>
  cnd v11_2
  ((aIaddr 1 x0 x4).bind fun v18_3 =>
  (aLoad false 1 st v18_3).bind fun v19_4 =>
  (aIaddr 1 x3 x4).bind fun v20_5 =>
  (aStore 1 v20_5 v19_4 st).bind fun vs_6 =>
  (aBin .add x4 (.int .i64 1)).bind fun v13_7 =>
  L.loop [0, 3, 4] [2, 3] b_laws_toBoolS_1 [x0, x3, v13_7] vs_6)
  (some ((.exit 0), [.undef, x3], st)) := (lim_loop F _ _ _ _ _).trans (by kernel_rfl)

theorem k_laws_toBoolS_1_0 (o2 : AV) (o3 : AV) (st : St) : k_laws_toBoolS_1 ((.exit 0), [o2, o3], st) =
  (resTup st o3).bind fun r => some (r, st.n) := by kernel_rfl

noncomputable def f_laws_eqBoolS : IFn := (F i_laws_eqBoolS).getD default

noncomputable def b_laws_eqBoolS_1 : ICode := loopAt f_laws_eqBoolS.code 0

noncomputable def k_laws_eqBoolS_1 : XT × List AV × St → Option (AV × Nat) := resK L f_laws_eqBoolS.code [true, true, false, true] (callK f_laws_eqBoolS.rs)

theorem call_laws_eqBoolS (a0 : AV) (a1 : AV) (n : Nat) : L.call i_laws_eqBoolS [a0, a1] n =
  (aLen a0).bind fun v7_1 =>
  (aLen a1).bind fun v9_2 =>
  (aBin .neq v7_1 v9_2).bind fun v10_3 =>
  cnd v10_3
  ((resTup (st0 n) (.bool false)).bind fun r => some (r, (st0 n).n))
  ((L.loop [0, 1, 5] [4] b_laws_eqBoolS_1 [a0, a1, (.int .i64 0)] (st0 n)).bind k_laws_eqBoolS_1) := (lim_call F _ _ _).trans (by kernel_rfl)

theorem loop_laws_eqBoolS_1 (x0 : AV) (x1 : AV) (x5 : AV) (st : St) : L.loop [0, 1, 5] [4] b_laws_eqBoolS_1 [x0, x1, x5] st =
  (aLen x0).bind fun v13_1 =>
  (aBin .lss x5 v13_1).bind fun v14_2 =>
  cnd v14_2
  ((aIaddr 1 x0 x5).bind fun v19_3 =>
  (aLoad false 1 st v19_3).bind fun v20_4 =>
  (aIaddr 1 x1 x5).bind fun v23_5 =>
  (aLoad false 1 st v23_5).bind fun v24_6 =>
  (aBinb .neq v20_4 v24_6).bind fun v25_7 =>
  cnd v25_7
  (some (.ret, [(.bool false)], st))
  ((aBin .add x5 (.int .i64 1)).bind fun v16_8 =>
  L.loop [0, 1, 5] [4] b_laws_eqBoolS_1 [x0, x1, v16_8] st))
  (some ((.exit 0), [.undef], st)) := (lim_loop F _ _ _ _ _).trans (by kernel_rfl)

theorem k_laws_eqBoolS_1_ret (o4 : AV) (st : St) : k_laws_eqBoolS_1 (.ret, [o4], st) =
  (resTup st o4).bind fun r => some (r, st.n) := by kernel_rfl

theorem k_laws_eqBoolS_1_0 (o4 : AV) (st : St) : k_laws_eqBoolS_1 ((.exit 0), [o4], st) =
  (resTup st (.bool true)).bind fun r => some (r, st.n) := by kernel_rfl

end Go.Proofs.YtilbmpdeginabaaFw
