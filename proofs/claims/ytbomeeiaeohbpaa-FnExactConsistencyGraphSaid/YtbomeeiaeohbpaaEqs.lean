/- The equations of the seat's functions, printed out of its code. Conditions: none beside each theorem's own. -/
import Derived.Test.YtbomeeiaeohbpaaEq
namespace Go.Proofs.YtbomeeiaeohbpaaFw
open Go
set_option maxRecDepth 20000
set_option linter.unusedVariables false

abbrev i_laws_FnExactConsistencyGraph : Nat := 4
abbrev i_laws_szFactorS : Nat := 9
abbrev i_spec_AreConsistent : Nat := 10
abbrev i_laws_toFactorS : Nat := 11
abbrev i_impl_AreConsistent : Nat := 12
abbrev i_laws_eqFactorS : Nat := 13
abbrev i_spec_ConsistencyGraph : Nat := 14
abbrev i_impl_ConsistencyGraph : Nat := 15
abbrev i_laws_eqBoolSS : Nat := 16
abbrev i_laws_markFactorS : Nat := 17
abbrev i_laws_markBoolSS : Nat := 18
abbrev i_laws_heldBoolSS : Nat := 19
abbrev i_impl_IsFactorList : Nat := 25
abbrev i_impl_FactorIds : Nat := 26
abbrev i_laws_szFactor : Nat := 34
abbrev i_spec_l01In : Nat := 35
abbrev i_spec_LoopDistance : Nat := 36
abbrev i_laws_toFactor : Nat := 37
abbrev i_impl_LoopDistance : Nat := 38
abbrev i_laws_eqFactor : Nat := 39
abbrev i_spec_FactorIds : Nat := 40
abbrev i_spec_IsFactorList : Nat := 41
abbrev i_laws_eqBoolS : Nat := 42
abbrev i_laws_markText : Nat := 43
abbrev i_laws_markBoolS : Nat := 44
abbrev i_laws_heldBoolS : Nat := 45
abbrev i_impl_LoopOf : Nat := 53
abbrev i_impl_IsValidFactor : Nat := 54
abbrev i_impl_NamesOf : Nat := 55
abbrev i_spec_l21Find : Nat := 57
abbrev i_spec_LoopOf : Nat := 58
abbrev i_spec_LoopError : Nat := 63
abbrev i_spec_l17Size : Nat := 64
abbrev i_laws_toPose : Nat := 65
abbrev i_impl_LoopError : Nat := 66
abbrev i_impl_absOf : Nat := 67
abbrev i_laws_eqPose : Nat := 68
abbrev i_spec_IsValidFactor : Nat := 69
abbrev i_spec_NamesOf : Nat := 70
abbrev i_spec_DeadReckoning : Nat := 72
abbrev i_spec_IsPoseName : Nat := 74
abbrev i_impl_nameIndex : Nat := 78
abbrev i_impl_findFactor : Nat := 82
abbrev i_impl_KnownPose : Nat := 83
abbrev i_impl_IsValidPose : Nat := 84
abbrev i_impl_IsPoseName : Nat := 85
abbrev i_impl_IsLandmarkName : Nat := 86
abbrev i_impl_hasString : Nat := 87
abbrev i_spec_KnownPose : Nat := 88
abbrev i_spec_l17Index : Nat := 90
abbrev i_spec_l05Compose : Nat := 93
abbrev i_spec_Inverse : Nat := 94
abbrev i_spec_l21Chain : Nat := 95
abbrev i_impl_composeOk : Nat := 96
abbrev i_impl_Inverse : Nat := 97
abbrev i_impl_composeAllOk : Nat := 98
abbrev i_spec_IsValidPose : Nat := 99
abbrev i_spec_IsLandmarkName : Nat := 100
abbrev i_spec_l16Has : Nat := 101
abbrev i_spec_l17Reckon : Nat := 105
abbrev i_spec_IsName : Nat := 106
abbrev i_impl_DeadReckoning : Nat := 108
abbrev i_impl_inRange : Nat := 109
abbrev i_impl_IsName : Nat := 110
abbrev i_spec_RotateXY : Nat := 112
abbrev i_impl_RotateXY : Nat := 113
abbrev i_impl_poseStep : Nat := 114
abbrev zc_iissiiii : AV := (.agg [(.int .i64 0), (.int .i64 0), (.str ⟨#[]⟩), (.str ⟨#[]⟩), (.int .i64 0), (.int .i64 0), (.int .i64 0), (.int .i64 0)])
abbrev zc_iii : AV := (.agg [(.int .i64 0), (.int .i64 0), (.int .i64 0)])

noncomputable def f_laws_FnExactConsistencyGraph : IFn := (F i_laws_FnExactConsistencyGraph).getD default

theorem call_laws_FnExactConsistencyGraph (a0 : AV) (a1 : AV) (n : Nat) : L.call i_laws_FnExactConsistencyGraph [a0, a1] n =
  (clV L i_laws_szFactorS 0 [a0, (.int .i64 1048576)] (st0 n)).bind fun v15_1 =>
  (aBin .lss v15_1.1 (.int .i64 0)).bind fun v17_2 =>
  cnd v17_2
  ((resTup v15_1.2 (.bool true)).bind fun r => some (r, v15_1.2.n))
  ((clV L i_laws_toFactorS 0 [a0] v15_1.2).bind fun v19_3 =>
  (clV L i_spec_ConsistencyGraph 0 [v19_3.1, a1] v19_3.2).bind fun v21_4 =>
  (clV L i_laws_toFactorS 6 [a0] v21_4.2).bind fun v23_5 =>
  (clV L i_impl_ConsistencyGraph 6 [v23_5.1, a1] v23_5.2).bind fun v26_6 =>
  (clV L i_laws_eqBoolSS 0 [v26_6.1, v21_4.1] v26_6.2).bind fun v29_7 =>
  (aUn .not v29_7.1).bind fun v30_8 =>
  cnd v30_8
  ((resTup v29_7.2 (.bool false)).bind fun r => some (r, v29_7.2.n))
  ((clV L i_laws_toFactorS 0 [a0] v29_7.2).bind fun v33_9 =>
  (clV L i_laws_eqFactorS 0 [v23_5.1, v33_9.1] v33_9.2).bind fun v34_10 =>
  (aUn .not v34_10.1).bind fun v35_11 =>
  cnd v35_11
  ((resTup v34_10.2 (.bool false)).bind fun r => some (r, v34_10.2.n))
  ((L.inl i_laws_markFactorS [v23_5.1, (.int .i64 1)] v34_10.2).bind fun v38_12 =>
  (aBin .lss v38_12.1 (.int .i64 0)).bind fun v40_13 =>
  cnd v40_13
  ((resTup v38_12.2 (.bool false)).bind fun r => some (r, v38_12.2.n))
  ((clV L i_laws_eqBoolSS 0 [v26_6.1, v21_4.1] v38_12.2).bind fun v44_14 =>
  (aUn .not v44_14.1).bind fun v45_15 =>
  cnd v45_15
  ((resTup v44_14.2 (.bool false)).bind fun r => some (r, v44_14.2.n))
  ((L.inl i_laws_markBoolSS [v26_6.1, (.int .i64 1)] v44_14.2).bind fun v49_16 =>
  (clV L i_laws_heldBoolSS 0 [v26_6.1, (.int .i64 1)] v49_16.2).bind fun v52_17 =>
  (aBin .lss v52_17.1 (.int .i64 0)).bind fun v54_18 =>
  cnd v54_18
  ((resTup v52_17.2 (.bool false)).bind fun r => some (r, v52_17.2.n))
  ((aBin .neq v52_17.1 v49_16.1).bind fun v57_19 =>
  cnd v57_19
  ((resTup v52_17.2 (.bool false)).bind fun r => some (r, v52_17.2.n))
  ((clV L i_laws_toFactorS 0 [a0] v52_17.2).bind fun v59_20 =>
  (clV L i_impl_ConsistencyGraph 0 [v59_20.1, a1] v59_20.2).bind fun v61_21 =>
  (clV L i_laws_eqBoolSS 0 [v61_21.1, v21_4.1] v61_21.2).bind fun v64_22 =>
  (aUn .not v64_22.1).bind fun v65_23 =>
  cnd v65_23
  ((resTup v64_22.2 (.bool false)).bind fun r => some (r, v64_22.2.n))
  ((clV L i_laws_heldBoolSS 0 [v26_6.1, (.int .i64 1)] v64_22.2).bind fun v68_24 =>
  (aBin .lss v68_24.1 (.int .i64 0)).bind fun v70_25 =>
  cnd v70_25
  ((resTup v68_24.2 (.bool false)).bind fun r => some (r, v68_24.2.n))
  ((aBin .neq v68_24.1 v49_16.1).bind fun v73_26 =>
  cnd v73_26
  ((resTup v68_24.2 (.bool false)).bind fun r => some (r, v68_24.2.n))
  ((resTup v68_24.2 (.bool true)).bind fun r => some (r, v68_24.2.n))))))))))) := (lim_call F _ _ _).trans (by kernel_rfl)

noncomputable def f_laws_szFactorS : IFn := (F i_laws_szFactorS).getD default

noncomputable def b_laws_szFactorS_1 : ICode := loopAt f_laws_szFactorS.code 0

noncomputable def k_laws_szFactorS_1 : XT × List AV × St → Option (AV × Nat) := resK L f_laws_szFactorS.code [true, true, true, false, true] (callK f_laws_szFactorS.rs)

theorem call_laws_szFactorS (a0 : AV) (a1 : AV) (n : Nat) : L.call i_laws_szFactorS [a0, a1] n =
  (aLen a0).bind fun v8_1 =>
  (aBin .sub a1 v8_1).bind fun v9_2 =>
  (aBin .lss v9_2 (.int .i64 0)).bind fun v11_3 =>
  cnd v11_3
  ((resTup (st0 n) (.int .i64 (-1))).bind fun r => some (r, (st0 n).n))
  ((L.loop [0, 1, 5] [1, 4] b_laws_szFactorS_1 [a0, v9_2, (.int .i64 0)] (st0 n)).bind k_laws_szFactorS_1) := (lim_call F _ _ _).trans (by kernel_rfl)

theorem loop_laws_szFactorS_1 (x0 : AV) (x1 : AV) (x5 : AV) (st : St) : L.loop [0, 1, 5] [1, 4] b_laws_szFactorS_1 [x0, x1, x5] st =
  (aLen x0).bind fun v14_1 =>
  (aBin .lss x5 v14_1).bind fun v15_2 =>
  cnd v15_2
  ((aIaddr 8 x0 x5).bind fun v20_3 =>
  (aLoad true 8 st v20_3).bind fun v21_4 =>
  (clV L i_laws_szFactor 0 [v21_4, x1] st).bind fun v23_5 =>
  (aBin .lss v23_5.1 (.int .i64 0)).bind fun v25_6 =>
  cnd v25_6
  (some (.ret, [v23_5.1, (.int .i64 (-1))], v23_5.2))
  ((aBin .add x5 (.int .i64 1)).bind fun v17_7 =>
  L.loop [0, 1, 5] [1, 4] b_laws_szFactorS_1 [x0, v23_5.1, v17_7] v23_5.2))
  (some ((.exit 0), [x1, .undef], st)) := (lim_loop F _ _ _ _ _).trans (by kernel_rfl)

theorem k_laws_szFactorS_1_ret (o1 : AV) (o4 : AV) (st : St) : k_laws_szFactorS_1 (.ret, [o1, o4], st) =
  (resTup st o4).bind fun r => some (r, st.n) := by kernel_rfl

theorem k_laws_szFactorS_1_0 (o1 : AV) (o4 : AV) (st : St) : k_laws_szFactorS_1 ((.exit 0), [o1, o4], st) =
  (resTup st o1).bind fun r => some (r, st.n) := by kernel_rfl

noncomputable def f_spec_AreConsistent : IFn := (F i_spec_AreConsistent).getD default

theorem call_spec_AreConsistent (a0 : AV) (a1 : AV) (a2 : AV) (a3 : AV) (n : Nat) : L.call i_spec_AreConsistent [a0, a1, a2, a3] n =
  (clV L i_spec_LoopDistance 0 [a0, a1, a2] (st0 n)).bind fun v12_1 =>
  (clV L i_spec_l01In 0 [v12_1.1, (.int .i64 0), a3] v12_1.2).bind fun v14_2 =>
  (resTup v14_2.2 v14_2.1).bind fun r => some (r, v14_2.2.n) := (lim_call F _ _ _).trans (by kernel_rfl)

noncomputable def f_laws_toFactorS : IFn := (F i_laws_toFactorS).getD default

noncomputable def b_laws_toFactorS_1 : ICode := loopAt f_laws_toFactorS.code 0

noncomputable def k_laws_toFactorS_1 : XT × List AV × St → Option (AV × Nat) := resK L f_laws_toFactorS.code [true, true, false, true] (callK f_laws_toFactorS.rs)

theorem call_laws_toFactorS (a0 : AV) (n : Nat) : L.call i_laws_toFactorS [a0] n =
  (aLen a0).bind fun v6_1 =>
  mkMake 8 zc_iissiiii v6_1 v6_1 (st0 n) fun v7_2 vs_3 =>
  (L.loop [0, 3, 4] [2, 3] b_laws_toFactorS_1 [a0, v7_2, (.int .i64 0)] vs_3).bind k_laws_toFactorS_1 := (lim_call F _ _ _).trans (by kernel_rfl)

theorem loop_laws_toFactorS_1 (x0 : AV) (x3 : AV) (x4 : AV) (st : St) : L.loop [0, 3, 4] [2, 3] b_laws_toFactorS_1 [x0, x3, x4] st =
  (aLen x0).bind fun v10_1 =>
  (aBin .lss x4 v10_1).bind fun v11_2 =>
  cnd v11_2
  ((aIaddr 8 x0 x4).bind fun v18_3 =>
  (aLoad true 8 st v18_3).bind fun v19_4 =>
  (clV L i_laws_toFactor 0 [v19_4] st).bind fun v20_5 =>
  (aIaddr 8 x3 x4).bind fun v21_6 =>
  (aStore 8 v21_6 v20_5.1 v20_5.2).bind fun vs_7 =>
  (aBin .add x4 (.int .i64 1)).bind fun v13_8 =>
  L.loop [0, 3, 4] [2, 3] b_laws_toFactorS_1 [x0, x3, v13_8] vs_7)
  (some ((.exit 0), [.undef, x3], st)) := (lim_loop F _ _ _ _ _).trans (by kernel_rfl)

theorem k_laws_toFactorS_1_0 (o2 : AV) (o3 : AV) (st : St) : k_laws_toFactorS_1 ((.exit 0), [o2, o3], st) =
  (resTup st o3).bind fun r => some (r, st.n) := by kernel_rfl

noncomputable def f_impl_AreConsistent : IFn := (F i_impl_AreConsistent).getD default

theorem call_impl_AreConsistent (a0 : AV) (a1 : AV) (a2 : AV) (a3 : AV) (n : Nat) : L.call i_impl_AreConsistent [a0, a1, a2, a3] n =
  (clV L i_impl_LoopDistance 0 [a0, a1, a2] (st0 n)).bind fun v13_1 =>
  (aBin .geq v13_1.1 (.int .i64 0)).bind fun v15_2 =>
  cnd v15_2
  ((aBin .leq v13_1.1 a3).bind fun v19_3 =>
  (resTup v13_1.2 v19_3).bind fun r => some (r, v13_1.2.n))
  ((resTup v13_1.2 (.bool false)).bind fun r => some (r, v13_1.2.n)) := (lim_call F _ _ _).trans (by kernel_rfl)

noncomputable def f_laws_eqFactorS : IFn := (F i_laws_eqFactorS).getD default

noncomputable def b_laws_eqFactorS_1 : ICode := loopAt f_laws_eqFactorS.code 0

noncomputable def k_laws_eqFactorS_1 : XT × List AV × St → Option (AV × Nat) := resK L f_laws_eqFactorS.code [true, true, false, true] (callK f_laws_eqFactorS.rs)

theorem call_laws_eqFactorS (a0 : AV) (a1 : AV) (n : Nat) : L.call i_laws_eqFactorS [a0, a1] n =
  (aLen a0).bind fun v7_1 =>
  (aLen a1).bind fun v9_2 =>
  (aBin .neq v7_1 v9_2).bind fun v10_3 =>
  cnd v10_3
  ((resTup (st0 n) (.bool false)).bind fun r => some (r, (st0 n).n))
  ((L.loop [0, 1, 5] [4] b_laws_eqFactorS_1 [a0, a1, (.int .i64 0)] (st0 n)).bind k_laws_eqFactorS_1) := (lim_call F _ _ _).trans (by kernel_rfl)

theorem loop_laws_eqFactorS_1 (x0 : AV) (x1 : AV) (x5 : AV) (st : St) : L.loop [0, 1, 5] [4] b_laws_eqFactorS_1 [x0, x1, x5] st =
  (aLen x0).bind fun v13_1 =>
  (aBin .lss x5 v13_1).bind fun v14_2 =>
  cnd v14_2
  ((aIaddr 8 x0 x5).bind fun v19_3 =>
  (aLoad true 8 st v19_3).bind fun v20_4 =>
  (aIaddr 8 x1 x5).bind fun v23_5 =>
  (aLoad true 8 st v23_5).bind fun v24_6 =>
  (clV L i_laws_eqFactor 0 [v20_4, v24_6] st).bind fun v25_7 =>
  (aUn .not v25_7.1).bind fun v26_8 =>
  cnd v26_8
  (some (.ret, [(.bool false)], v25_7.2))
  ((aBin .add x5 (.int .i64 1)).bind fun v16_9 =>
  L.loop [0, 1, 5] [4] b_laws_eqFactorS_1 [x0, x1, v16_9] v25_7.2))
  (some ((.exit 0), [.undef], st)) := (lim_loop F _ _ _ _ _).trans (by kernel_rfl)

theorem k_laws_eqFactorS_1_ret (o4 : AV) (st : St) : k_laws_eqFactorS_1 (.ret, [o4], st) =
  (resTup st o4).bind fun r => some (r, st.n) := by kernel_rfl

theorem k_laws_eqFactorS_1_0 (o4 : AV) (st : St) : k_laws_eqFactorS_1 ((.exit 0), [o4], st) =
  (resTup st (.bool true)).bind fun r => some (r, st.n) := by kernel_rfl

noncomputable def f_spec_ConsistencyGraph : IFn := (F i_spec_ConsistencyGraph).getD default

noncomputable def b_spec_ConsistencyGraph_1 : ICode := loopAt f_spec_ConsistencyGraph.code 0

noncomputable def b_spec_ConsistencyGraph_2 : ICode := loopAt f_spec_ConsistencyGraph.code 1

noncomputable def k_spec_ConsistencyGraph_1 : XT × List AV × St → Option (AV × Nat) := resK L f_spec_ConsistencyGraph.code [true, true, true, true, false, true] (callK f_spec_ConsistencyGraph.rs)

noncomputable def k_spec_ConsistencyGraph_2 : XT × List AV × St → Option (XT × List AV × St) := resK L b_spec_ConsistencyGraph_1 [true, true, false, true, true, false, true] (loopK L [0, 1, 5, 6, 23, 24, 25] [4, 5] b_spec_ConsistencyGraph_1)

theorem call_spec_ConsistencyGraph (a0 : AV) (a1 : AV) (n : Nat) : L.call i_spec_ConsistencyGraph [a0, a1] n =
  mkLit 0 1 .nils [] (st0 n) fun v12_1 vs_2 =>
  (clV L i_spec_FactorIds 0 [a0, (.int .i64 4)] vs_2).bind fun v14_3 =>
  (clV L i_spec_IsFactorList 0 [a0] v14_3.2).bind fun v16_4 =>
  (aUn .not v16_4.1).bind fun v17_5 =>
  cnd v17_5
  ((resTup v16_4.2 .nils).bind fun r => some (r, v16_4.2.n))
  ((aLen v14_3.1).bind fun v20_6 =>
  (aBin .gtr v20_6 (.int .i64 12)).bind fun v21_7 =>
  cnd v21_7
  ((resTup v16_4.2 .nils).bind fun r => some (r, v16_4.2.n))
  ((aLen v14_3.1).bind fun v24_8 =>
  (L.loop [0, 1, 5, 6, 23, 24, 25] [4, 5] b_spec_ConsistencyGraph_1 [a0, a1, v12_1, v14_3.1, v14_3.1, v24_8, (.int .i64 0)] v16_4.2).bind k_spec_ConsistencyGraph_1)) := (lim_call F _ _ _).trans (by kernel_rfl)

theorem loop_spec_ConsistencyGraph_1 (x0 : AV) (x1 : AV) (x5 : AV) (x6 : AV) (x23 : AV) (x24 : AV) (x25 : AV) (st : St) : L.loop [0, 1, 5, 6, 23, 24, 25] [4, 5] b_spec_ConsistencyGraph_1 [x0, x1, x5, x6, x23, x24, x25] st =
  (aBin .lss x25 x24).bind fun v26_1 =>
  cnd v26_1
  ((aIaddr 1 x23 x25).bind fun v28_2 =>
  (aLoad false 1 st v28_2).bind fun v29_3 =>
  mkLit 0 1 (.bool false) [] st fun v30_4 vs_5 =>
  (aLen x6).bind fun v32_6 =>
  (L.loop [0, 1, 5, 6, 7, 8, 9, 23, 24, 25, 31, 32, 33] [0, 1, 4, 5, 6, 9, 23, 24, 25] b_spec_ConsistencyGraph_2 [x0, x1, x5, x6, x25, v29_3, v30_4, x23, x24, x25, x6, v32_6, (.int .i64 0)] vs_5).bind k_spec_ConsistencyGraph_2)
  (some ((.exit 0), [.undef, x5], st)) := (lim_loop F _ _ _ _ _).trans (by kernel_rfl)

theorem loop_spec_ConsistencyGraph_2 (x0 : AV) (x1 : AV) (x5 : AV) (x6 : AV) (x7 : AV) (x8 : AV) (x9 : AV) (x23 : AV) (x24 : AV) (x25 : AV) (x31 : AV) (x32 : AV) (x33 : AV) (st : St) : L.loop [0, 1, 5, 6, 7, 8, 9, 23, 24, 25, 31, 32, 33] [0, 1, 4, 5, 6, 9, 23, 24, 25] b_spec_ConsistencyGraph_2 [x0, x1, x5, x6, x7, x8, x9, x23, x24, x25, x31, x32, x33] st =
  (aBin .lss x33 x32).bind fun v34_1 =>
  cnd v34_1
  ((aIaddr 1 x31 x33).bind fun v36_2 =>
  (aLoad false 1 st v36_2).bind fun v37_3 =>
  (aBin .neq x7 x33).bind fun v41_4 =>
  cnd v41_4
  ((clV L i_spec_AreConsistent 0 [x0, x8, v37_3, x1] st).bind fun v47_5 =>
  mkLit 1 1 (.bool false) [(0, v47_5.1)] v47_5.2 fun v49_6 vs_7 =>
  (aApp 1 x9 v49_6 vs_7).bind fun v50_8 =>
  (aBin .add x33 (.int .i64 1)).bind fun v51_9 =>
  L.loop [0, 1, 5, 6, 7, 8, 9, 23, 24, 25, 31, 32, 33] [0, 1, 4, 5, 6, 9, 23, 24, 25] b_spec_ConsistencyGraph_2 [x0, x1, x5, x6, x7, x8, v50_8.1, x23, x24, x25, x31, x32, v51_9] v50_8.2)
  (mkLit 1 1 (.bool false) [(0, (.bool false))] st fun v49_10 vs_11 =>
  (aApp 1 x9 v49_10 vs_11).bind fun v50_12 =>
  (aBin .add x33 (.int .i64 1)).bind fun v51_13 =>
  L.loop [0, 1, 5, 6, 7, 8, 9, 23, 24, 25, 31, 32, 33] [0, 1, 4, 5, 6, 9, 23, 24, 25] b_spec_ConsistencyGraph_2 [x0, x1, x5, x6, x7, x8, v50_12.1, x23, x24, x25, x31, x32, v51_13] v50_12.2))
  (some ((.exit 2), [x0, x1, .undef, x5, x6, x9, x23, x24, x25], st)) := (lim_loop F _ _ _ _ _).trans (by kernel_rfl)

theorem k_spec_ConsistencyGraph_1_0 (o4 : AV) (o5 : AV) (st : St) : k_spec_ConsistencyGraph_1 ((.exit 0), [o4, o5], st) =
  (resTup st o5).bind fun r => some (r, st.n) := by kernel_rfl

theorem k_spec_ConsistencyGraph_2_2 (o0 : AV) (o1 : AV) (o4 : AV) (o5 : AV) (o6 : AV) (o9 : AV) (o23 : AV) (o24 : AV) (o25 : AV) (st : St) : k_spec_ConsistencyGraph_2 ((.exit 2), [o0, o1, o4, o5, o6, o9, o23, o24, o25], st) =
  mkLit 1 1 .nils [(0, o9)] st fun v54_1 vs_2 =>
  (aApp 1 o5 v54_1 vs_2).bind fun v55_3 =>
  (aBin .add o25 (.int .i64 1)).bind fun v56_4 =>
  L.loop [0, 1, 5, 6, 23, 24, 25] [4, 5] b_spec_ConsistencyGraph_1 [o0, o1, v55_3.1, o6, o23, o24, v56_4] v55_3.2 := by kernel_rfl

noncomputable def f_impl_ConsistencyGraph : IFn := (F i_impl_ConsistencyGraph).getD default

noncomputable def b_impl_ConsistencyGraph_1 : ICode := loopAt f_impl_ConsistencyGraph.code 0

noncomputable def b_impl_ConsistencyGraph_2 : ICode := loopAt f_impl_ConsistencyGraph.code 1

noncomputable def k_impl_ConsistencyGraph_1 : XT × List AV × St → Option (AV × Nat) := resK L f_impl_ConsistencyGraph.code [true, true, true, true, false, true] (callK f_impl_ConsistencyGraph.rs)

noncomputable def k_impl_ConsistencyGraph_2 : XT × List AV × St → Option (XT × List AV × St) := resK L b_impl_ConsistencyGraph_1 [true, true, false, true, true, false, true] (loopK L [0, 1, 5, 6, 23, 24, 25] [4, 6] b_impl_ConsistencyGraph_1)

theorem call_impl_ConsistencyGraph (a0 : AV) (a1 : AV) (n : Nat) : L.call i_impl_ConsistencyGraph [a0, a1] n =
  (clV L i_impl_FactorIds 0 [a0, (.int .i64 4)] (st0 n)).bind fun v13_1 =>
  (clV L i_impl_IsFactorList 0 [a0] v13_1.2).bind fun v15_2 =>
  (aUn .not v15_2.1).bind fun v16_3 =>
  cnd v16_3
  ((resTup v15_2.2 .nils).bind fun r => some (r, v15_2.2.n))
  ((aLen v13_1.1).bind fun v19_4 =>
  (aBin .gtr v19_4 (.int .i64 12)).bind fun v20_5 =>
  cnd v20_5
  ((resTup v15_2.2 .nils).bind fun r => some (r, v15_2.2.n))
  (mkLit 0 1 .nils [] v15_2.2 fun v22_6 vs_7 =>
  (aLen v13_1.1).bind fun v24_8 =>
  (L.loop [0, 1, 5, 6, 23, 24, 25] [4, 6] b_impl_ConsistencyGraph_1 [a0, a1, v13_1.1, v22_6, v13_1.1, v24_8, (.int .i64 0)] vs_7).bind k_impl_ConsistencyGraph_1)) := (lim_call F _ _ _).trans (by kernel_rfl)

theorem loop_impl_ConsistencyGraph_1 (x0 : AV) (x1 : AV) (x5 : AV) (x6 : AV) (x23 : AV) (x24 : AV) (x25 : AV) (st : St) : L.loop [0, 1, 5, 6, 23, 24, 25] [4, 6] b_impl_ConsistencyGraph_1 [x0, x1, x5, x6, x23, x24, x25] st =
  (aBin .lss x25 x24).bind fun v26_1 =>
  cnd v26_1
  ((aIaddr 1 x23 x25).bind fun v28_2 =>
  (aLoad false 1 st v28_2).bind fun v29_3 =>
  mkLit 0 1 (.bool false) [] st fun v30_4 vs_5 =>
  (aLen x5).bind fun v32_6 =>
  (L.loop [0, 1, 5, 6, 7, 8, 9, 23, 24, 25, 31, 32, 33] [0, 1, 4, 5, 6, 9, 23, 24, 25] b_impl_ConsistencyGraph_2 [x0, x1, x5, x6, x25, v29_3, v30_4, x23, x24, x25, x5, v32_6, (.int .i64 0)] vs_5).bind k_impl_ConsistencyGraph_2)
  (some ((.exit 0), [.undef, x6], st)) := (lim_loop F _ _ _ _ _).trans (by kernel_rfl)

theorem loop_impl_ConsistencyGraph_2 (x0 : AV) (x1 : AV) (x5 : AV) (x6 : AV) (x7 : AV) (x8 : AV) (x9 : AV) (x23 : AV) (x24 : AV) (x25 : AV) (x31 : AV) (x32 : AV) (x33 : AV) (st : St) : L.loop [0, 1, 5, 6, 7, 8, 9, 23, 24, 25, 31, 32, 33] [0, 1, 4, 5, 6, 9, 23, 24, 25] b_impl_ConsistencyGraph_2 [x0, x1, x5, x6, x7, x8, x9, x23, x24, x25, x31, x32, x33] st =
  (aBin .lss x33 x32).bind fun v34_1 =>
  cnd v34_1
  ((aIaddr 1 x31 x33).bind fun v36_2 =>
  (aLoad false 1 st v36_2).bind fun v37_3 =>
  (aBin .neq x7 x33).bind fun v41_4 =>
  cnd v41_4
  ((clV L i_impl_AreConsistent 0 [x0, x8, v37_3, x1] st).bind fun v47_5 =>
  mkLit 1 1 (.bool false) [(0, v47_5.1)] v47_5.2 fun v49_6 vs_7 =>
  (aApp 1 x9 v49_6 vs_7).bind fun v50_8 =>
  (aBin .add x33 (.int .i64 1)).bind fun v51_9 =>
  L.loop [0, 1, 5, 6, 7, 8, 9, 23, 24, 25, 31, 32, 33] [0, 1, 4, 5, 6, 9, 23, 24, 25] b_impl_ConsistencyGraph_2 [x0, x1, x5, x6, x7, x8, v50_8.1, x23, x24, x25, x31, x32, v51_9] v50_8.2)
  (mkLit 1 1 (.bool false) [(0, (.bool false))] st fun v49_10 vs_11 =>
  (aApp 1 x9 v49_10 vs_11).bind fun v50_12 =>
  (aBin .add x33 (.int .i64 1)).bind fun v51_13 =>
  L.loop [0, 1, 5, 6, 7, 8, 9, 23, 24, 25, 31, 32, 33] [0, 1, 4, 5, 6, 9, 23, 24, 25] b_impl_ConsistencyGraph_2 [x0, x1, x5, x6, x7, x8, v50_12.1, x23, x24, x25, x31, x32, v51_13] v50_12.2))
  (some ((.exit 2), [x0, x1, .undef, x5, x6, x9, x23, x24, x25], st)) := (lim_loop F _ _ _ _ _).trans (by kernel_rfl)

theorem k_impl_ConsistencyGraph_1_0 (o4 : AV) (o6 : AV) (st : St) : k_impl_ConsistencyGraph_1 ((.exit 0), [o4, o6], st) =
  (resTup st o6).bind fun r => some (r, st.n) := by kernel_rfl

theorem k_impl_ConsistencyGraph_2_2 (o0 : AV) (o1 : AV) (o4 : AV) (o5 : AV) (o6 : AV) (o9 : AV) (o23 : AV) (o24 : AV) (o25 : AV) (st : St) : k_impl_ConsistencyGraph_2 ((.exit 2), [o0, o1, o4, o5, o6, o9, o23, o24, o25], st) =
  mkLit 1 1 .nils [(0, o9)] st fun v54_1 vs_2 =>
  (aApp 1 o6 v54_1 vs_2).bind fun v55_3 =>
  (aBin .add o25 (.int .i64 1)).bind fun v56_4 =>
  L.loop [0, 1, 5, 6, 23, 24, 25] [4, 6] b_impl_ConsistencyGraph_1 [o0, o1, o5, v55_3.1, o23, o24, v56_4] v55_3.2 := by kernel_rfl

noncomputable def f_laws_eqBoolSS : IFn := (F i_laws_eqBoolSS).getD default

noncomputable def b_laws_eqBoolSS_1 : ICode := loopAt f_laws_eqBoolSS.code 0

noncomputable def k_laws_eqBoolSS_1 : XT × List AV × St → Option (AV × Nat) := resK L f_laws_eqBoolSS.code [true, true, false, true] (callK f_laws_eqBoolSS.rs)

theorem call_laws_eqBoolSS (a0 : AV) (a1 : AV) (n : Nat) : L.call i_laws_eqBoolSS [a0, a1] n =
  (aLen a0).bind fun v7_1 =>
  (aLen a1).bind fun v9_2 =>
  (aBin .neq v7_1 v9_2).bind fun v10_3 =>
  cnd v10_3
  ((resTup (st0 n) (.bool false)).bind fun r => some (r, (st0 n).n))
  ((L.loop [0, 1, 5] [4] b_laws_eqBoolSS_1 [a0, a1, (.int .i64 0)] (st0 n)).bind k_laws_eqBoolSS_1) := (lim_call F _ _ _).trans (by kernel_rfl)

theorem loop_laws_eqBoolSS_1 (x0 : AV) (x1 : AV) (x5 : AV) (st : St) : L.loop [0, 1, 5] [4] b_laws_eqBoolSS_1 [x0, x1, x5] st =
  (aLen x0).bind fun v13_1 =>
  (aBin .lss x5 v13_1).bind fun v14_2 =>
  cnd v14_2
  ((aIaddr 1 x0 x5).bind fun v19_3 =>
  (aLoad false 1 st v19_3).bind fun v20_4 =>
  (aIaddr 1 x1 x5).bind fun v23_5 =>
  (aLoad false 1 st v23_5).bind fun v24_6 =>
  (clV L i_laws_eqBoolS 0 [v20_4, v24_6] st).bind fun v25_7 =>
  (aUn .not v25_7.1).bind fun v26_8 =>
  cnd v26_8
  (some (.ret, [(.bool false)], v25_7.2))
  ((aBin .add x5 (.int .i64 1)).bind fun v16_9 =>
  L.loop [0, 1, 5] [4] b_laws_eqBoolSS_1 [x0, x1, v16_9] v25_7.2))
  (some ((.exit 0), [.undef], st)) := (lim_loop F _ _ _ _ _).trans (by kernel_rfl)

theorem k_laws_eqBoolSS_1_ret (o4 : AV) (st : St) : k_laws_eqBoolSS_1 (.ret, [o4], st) =
  (resTup st o4).bind fun r => some (r, st.n) := by kernel_rfl

theorem k_laws_eqBoolSS_1_0 (o4 : AV) (st : St) : k_laws_eqBoolSS_1 ((.exit 0), [o4], st) =
  (resTup st (.bool true)).bind fun r => some (r, st.n) := by kernel_rfl

noncomputable def f_laws_markFactorS : IFn := (F i_laws_markFactorS).getD default

noncomputable def b_laws_markFactorS_1 : ICode := loopAt f_laws_markFactorS.code 0

noncomputable def k_laws_markFactorS_1 : XT × List AV × St → Option (AV × Nat) := resK L f_laws_markFactorS.code [true, false, true] (callK f_laws_markFactorS.rs)

theorem call_laws_markFactorS (a0 : AV) (a1 : AV) (n : Nat) : L.call i_laws_markFactorS [a0, a1] n =
  (L.loop [0, 1, 5] [1, 4] b_laws_markFactorS_1 [a0, a1, (.int .i64 0)] (st0 n)).bind k_laws_markFactorS_1 := (lim_call F _ _ _).trans (by kernel_rfl)

theorem loop_laws_markFactorS_1 (x0 : AV) (x1 : AV) (x5 : AV) (st : St) : L.loop [0, 1, 5] [1, 4] b_laws_markFactorS_1 [x0, x1, x5] st =
  (aLen x0).bind fun v8_1 =>
  (aBin .lss x5 v8_1).bind fun v9_2 =>
  cnd v9_2
  ((aIaddr 8 x0 x5).bind fun v15_3 =>
  (aFaddr 0 v15_3).bind fun v16_4 =>
  (aStore 1 v16_4 x1 st).bind fun vs_5 =>
  (aBin .add x1 (.int .i64 1)).bind fun v18_6 =>
  (aIaddr 8 x0 x5).bind fun v22_7 =>
  (aFaddr 1 v22_7).bind fun v23_8 =>
  (aStore 1 v23_8 v18_6 vs_5).bind fun vs_9 =>
  (aBin .add v18_6 (.int .i64 1)).bind fun v25_10 =>
  (clV L i_laws_markText 0 [v25_10] vs_9).bind fun v29_11 =>
  (aIaddr 8 x0 x5).bind fun v30_12 =>
  (aFaddr 2 v30_12).bind fun v31_13 =>
  (aStore 1 v31_13 v29_11.1 v29_11.2).bind fun vs_14 =>
  (aBin .add v25_10 (.int .i64 1)).bind fun v33_15 =>
  (clV L i_laws_markText 0 [v33_15] vs_14).bind fun v37_16 =>
  (aIaddr 8 x0 x5).bind fun v38_17 =>
  (aFaddr 3 v38_17).bind fun v39_18 =>
  (aStore 1 v39_18 v37_16.1 v37_16.2).bind fun vs_19 =>
  (aBin .add v33_15 (.int .i64 1)).bind fun v41_20 =>
  (aIaddr 8 x0 x5).bind fun v45_21 =>
  (aFaddr 4 v45_21).bind fun v46_22 =>
  (aFaddr 0 v46_22).bind fun v47_23 =>
  (aStore 1 v47_23 v41_20 vs_19).bind fun vs_24 =>
  (aBin .add v41_20 (.int .i64 1)).bind fun v49_25 =>
  (aIaddr 8 x0 x5).bind fun v53_26 =>
  (aFaddr 4 v53_26).bind fun v54_27 =>
  (aFaddr 1 v54_27).bind fun v55_28 =>
  (aStore 1 v55_28 v49_25 vs_24).bind fun vs_29 =>
  (aBin .add v49_25 (.int .i64 1)).bind fun v57_30 =>
  (aIaddr 8 x0 x5).bind fun v61_31 =>
  (aFaddr 4 v61_31).bind fun v62_32 =>
  (aFaddr 2 v62_32).bind fun v63_33 =>
  (aStore 1 v63_33 v57_30 vs_29).bind fun vs_34 =>
  (aBin .add v57_30 (.int .i64 1)).bind fun v65_35 =>
  (aIaddr 8 x0 x5).bind fun v69_36 =>
  (aFaddr 7 v69_36).bind fun v70_37 =>
  (aStore 1 v70_37 v65_35 vs_34).bind fun vs_38 =>
  (aBin .add v65_35 (.int .i64 1)).bind fun v72_39 =>
  (aBin .add x5 (.int .i64 1)).bind fun v11_40 =>
  L.loop [0, 1, 5] [1, 4] b_laws_markFactorS_1 [x0, v72_39, v11_40] vs_38)
  (some ((.exit 0), [x1, .undef], st)) := (lim_loop F _ _ _ _ _).trans (by kernel_rfl)

theorem k_laws_markFactorS_1_0 (o1 : AV) (o4 : AV) (st : St) : k_laws_markFactorS_1 ((.exit 0), [o1, o4], st) =
  (resTup st o1).bind fun r => some (r, st.n) := by kernel_rfl

noncomputable def k_laws_markFactorS_1i : XT × List AV × St → Option (AV × St) := resK L f_laws_markFactorS.code [true, false, true] (inlK f_laws_markFactorS.rs)

theorem inl_laws_markFactorS (a0 : AV) (a1 : AV) (st : St) : L.inl i_laws_markFactorS [a0, a1] st =
  (L.loop [0, 1, 5] [1, 4] b_laws_markFactorS_1 [a0, a1, (.int .i64 0)] st).bind k_laws_markFactorS_1i := (lim_inl F _ _ _).trans (by kernel_rfl)

theorem k_laws_markFactorS_1i_0 (o1 : AV) (o4 : AV) (st : St) : k_laws_markFactorS_1i ((.exit 0), [o1, o4], st) =
  some (o1, st) := by kernel_rfl

noncomputable def f_laws_markBoolSS : IFn := (F i_laws_markBoolSS).getD default

noncomputable def b_laws_markBoolSS_1 : ICode := loopAt f_laws_markBoolSS.code 0

noncomputable def k_laws_markBoolSS_1 : XT × List AV × St → Option (AV × Nat) := resK L f_laws_markBoolSS.code [true, false, true] (callK f_laws_markBoolSS.rs)

theorem call_laws_markBoolSS (a0 : AV) (a1 : AV) (n : Nat) : L.call i_laws_markBoolSS [a0, a1] n =
  (L.loop [0, 1, 5] [1, 4] b_laws_markBoolSS_1 [a0, a1, (.int .i64 0)] (st0 n)).bind k_laws_markBoolSS_1 := (lim_call F _ _ _).trans (by kernel_rfl)

theorem loop_laws_markBoolSS_1 (x0 : AV) (x1 : AV) (x5 : AV) (st : St) : L.loop [0, 1, 5] [1, 4] b_laws_markBoolSS_1 [x0, x1, x5] st =
  (aLen x0).bind fun v8_1 =>
  (aBin .lss x5 v8_1).bind fun v9_2 =>
  cnd v9_2
  ((aIaddr 1 x0 x5).bind fun v14_3 =>
  (aLoad false 1 st v14_3).bind fun v15_4 =>
  (L.inl i_laws_markBoolS [v15_4, x1] st).bind fun v17_5 =>
  (aBin .add x5 (.int .i64 1)).bind fun v11_6 =>
  L.loop [0, 1, 5] [1, 4] b_laws_markBoolSS_1 [x0, v17_5.1, v11_6] v17_5.2)
  (some ((.exit 0), [x1, .undef], st)) := (lim_loop F _ _ _ _ _).trans (by kernel_rfl)

theorem k_laws_markBoolSS_1_0 (o1 : AV) (o4 : AV) (st : St) : k_laws_markBoolSS_1 ((.exit 0), [o1, o4], st) =
  (resTup st o1).bind fun r => some (r, st.n) := by kernel_rfl

noncomputable def k_laws_markBoolSS_1i : XT × List AV × St → Option (AV × St) := resK L f_laws_markBoolSS.code [true, false, true] (inlK f_laws_markBoolSS.rs)

theorem inl_laws_markBoolSS (a0 : AV) (a1 : AV) (st : St) : L.inl i_laws_markBoolSS [a0, a1] st =
  (L.loop [0, 1, 5] [1, 4] b_laws_markBoolSS_1 [a0, a1, (.int .i64 0)] st).bind k_laws_markBoolSS_1i := (lim_inl F _ _ _).trans (by kernel_rfl)

theorem k_laws_markBoolSS_1i_0 (o1 : AV) (o4 : AV) (st : St) : k_laws_markBoolSS_1i ((.exit 0), [o1, o4], st) =
  some (o1, st) := by kernel_rfl

noncomputable def f_laws_heldBoolSS : IFn := (F i_laws_heldBoolSS).getD default

noncomputable def b_laws_heldBoolSS_1 : ICode := loopAt f_laws_heldBoolSS.code 0

noncomputable def k_laws_heldBoolSS_1 : XT × List AV × St → Option (AV × Nat) := resK L f_laws_heldBoolSS.code [true, false, true] (callK f_laws_heldBoolSS.rs)

theorem call_laws_heldBoolSS (a0 : AV) (a1 : AV) (n : Nat) : L.call i_laws_heldBoolSS [a0, a1] n =
  (L.loop [0, 1, 5] [1, 4] b_laws_heldBoolSS_1 [a0, a1, (.int .i64 0)] (st0 n)).bind k_laws_heldBoolSS_1 := (lim_call F _ _ _).trans (by kernel_rfl)

theorem loop_laws_heldBoolSS_1 (x0 : AV) (x1 : AV) (x5 : AV) (st : St) : L.loop [0, 1, 5] [1, 4] b_laws_heldBoolSS_1 [x0, x1, x5] st =
  (aLen x0).bind fun v8_1 =>
  (aBin .lss x5 v8_1).bind fun v9_2 =>
  cnd v9_2
  ((aIaddr 1 x0 x5).bind fun v14_3 =>
  (aLoad false 1 st v14_3).bind fun v15_4 =>
  (clV L i_laws_heldBoolS 0 [v15_4, x1] st).bind fun v17_5 =>
  (aBin .lss v17_5.1 (.int .i64 0)).bind fun v19_6 =>
  cnd v19_6
  (some (.ret, [v17_5.1, (.int .i64 (-1))], v17_5.2))
  ((aBin .add x5 (.int .i64 1)).bind fun v11_7 =>
  L.loop [0, 1, 5] [1, 4] b_laws_heldBoolSS_1 [x0, v17_5.1, v11_7] v17_5.2))
  (some ((.exit 0), [x1, .undef], st)) := (lim_loop F _ _ _ _ _).trans (by kernel_rfl)

theorem k_laws_heldBoolSS_1_ret (o1 : AV) (o4 : AV) (st : St) : k_laws_heldBoolSS_1 (.ret, [o1, o4], st) =
  (resTup st o4).bind fun r => some (r, st.n) := by kernel_rfl

theorem k_laws_heldBoolSS_1_0 (o1 : AV) (o4 : AV) (st : St) : k_laws_heldBoolSS_1 ((.exit 0), [o1, o4], st) =
  (resTup st o1).bind fun r => some (r, st.n) := by kernel_rfl

noncomputable def f_impl_IsFactorList : IFn := (F i_impl_IsFactorList).getD default

noncomputable def b_impl_IsFactorList_1 : ICode := loopAt f_impl_IsFactorList.code 0

noncomputable def k_impl_IsFactorList_1 : XT × List AV × St → Option (AV × Nat) := resK L f_impl_IsFactorList.code [true, true, false, true] (callK f_impl_IsFactorList.rs)

theorem call_impl_IsFactorList (a0 : AV) (n : Nat) : L.call i_impl_IsFactorList [a0] n =
  (aLen a0).bind fun v6_1 =>
  (aBin .gtr v6_1 (.int .i64 40)).bind fun v7_2 =>
  cnd v7_2
  ((resTup (st0 n) (.bool false)).bind fun r => some (r, (st0 n).n))
  ((aLen a0).bind fun v9_3 =>
  (L.loop [0, 8, 9, 10] [0, 2] b_impl_IsFactorList_1 [a0, a0, v9_3, (.int .i64 0)] (st0 n)).bind k_impl_IsFactorList_1) := (lim_call F _ _ _).trans (by kernel_rfl)

theorem loop_impl_IsFactorList_1 (x0 : AV) (x8 : AV) (x9 : AV) (x10 : AV) (st : St) : L.loop [0, 8, 9, 10] [0, 2] b_impl_IsFactorList_1 [x0, x8, x9, x10] st =
  (aBin .lss x10 x9).bind fun v11_1 =>
  cnd v11_1
  ((aIaddr 8 x8 x10).bind fun v13_2 =>
  (aLoad true 8 st v13_2).bind fun v14_3 =>
  mkNew zc_iissiiii st fun v4_4 vs_5 =>
  (aStore 8 v4_4 v14_3 vs_5).bind fun vs_6 =>
  (aLoad true 8 vs_6 v4_4).bind fun v15_7 =>
  (clV L i_impl_IsValidFactor 0 [v15_7] vs_6).bind fun v16_8 =>
  (aUn .not v16_8.1).bind fun v17_9 =>
  cnd v17_9
  (some (.ret, [x0, (.bool false)], v16_8.2))
  ((aBin .gtr x10 (.int .i64 0)).bind fun v20_10 =>
  cnd v20_10
  ((aBin .sub x10 (.int .i64 1)).bind fun v24_11 =>
  (aIaddr 8 x0 v24_11).bind fun v25_12 =>
  (aFaddr 0 v25_12).bind fun v26_13 =>
  (aLoad false 1 v16_8.2 v26_13).bind fun v27_14 =>
  (aFaddr 0 v4_4).bind fun v28_15 =>
  (aLoad false 1 v16_8.2 v28_15).bind fun v29_16 =>
  (aBin .geq v27_14 v29_16).bind fun v30_17 =>
  cnd v30_17
  (some (.ret, [x0, (.bool false)], v16_8.2))
  ((aBin .add x10 (.int .i64 1)).bind fun v33_18 =>
  L.loop [0, 8, 9, 10] [0, 2] b_impl_IsFactorList_1 [x0, x8, x9, v33_18] v16_8.2))
  ((aBin .add x10 (.int .i64 1)).bind fun v33_19 =>
  L.loop [0, 8, 9, 10] [0, 2] b_impl_IsFactorList_1 [x0, x8, x9, v33_19] v16_8.2)))
  (some ((.exit 0), [x0, .undef], st)) := (lim_loop F _ _ _ _ _).trans (by kernel_rfl)

theorem k_impl_IsFactorList_1_ret (o0 : AV) (o2 : AV) (st : St) : k_impl_IsFactorList_1 (.ret, [o0, o2], st) =
  (resTup st o2).bind fun r => some (r, st.n) := by kernel_rfl

theorem k_impl_IsFactorList_1_0 (o0 : AV) (o2 : AV) (st : St) : k_impl_IsFactorList_1 ((.exit 0), [o0, o2], st) =
  (clV L i_impl_NamesOf 0 [o0] st).bind fun v35_1 =>
  (aLen v35_1.1).bind fun v36_2 =>
  (aBin .lss v36_2 (.int .i64 10)).bind fun v37_3 =>
  (resTup v35_1.2 v37_3).bind fun r => some (r, v35_1.2.n) := by kernel_rfl

noncomputable def f_impl_FactorIds : IFn := (F i_impl_FactorIds).getD default

noncomputable def b_impl_FactorIds_1 : ICode := loopAt f_impl_FactorIds.code 0

noncomputable def k_impl_FactorIds_1 : XT × List AV × St → Option (AV × Nat) := resK L f_impl_FactorIds.code [true, true, false, true] (callK f_impl_FactorIds.rs)

theorem call_impl_FactorIds (a0 : AV) (a1 : AV) (n : Nat) : L.call i_impl_FactorIds [a0, a1] n =
  mkLit 0 1 (.int .i64 0) [] (st0 n) fun v8_1 vs_2 =>
  (aLen a0).bind fun v10_3 =>
  (L.loop [1, 5, 9, 10, 11] [4, 5] b_impl_FactorIds_1 [a1, v8_1, a0, v10_3, (.int .i64 0)] vs_2).bind k_impl_FactorIds_1 := (lim_call F _ _ _).trans (by kernel_rfl)

theorem loop_impl_FactorIds_1 (x1 : AV) (x5 : AV) (x9 : AV) (x10 : AV) (x11 : AV) (st : St) : L.loop [1, 5, 9, 10, 11] [4, 5] b_impl_FactorIds_1 [x1, x5, x9, x10, x11] st =
  (aBin .lss x11 x10).bind fun v12_1 =>
  cnd v12_1
  ((aIaddr 8 x9 x11).bind fun v13_2 =>
  (aLoad true 8 st v13_2).bind fun v14_3 =>
  mkNew zc_iissiiii st fun v7_4 vs_5 =>
  (aStore 8 v7_4 v14_3 vs_5).bind fun vs_6 =>
  (aFaddr 1 v7_4).bind fun v15_7 =>
  (aLoad false 1 vs_6 v15_7).bind fun v16_8 =>
  (aBin .eql v16_8 x1).bind fun v18_9 =>
  cnd v18_9
  ((aFaddr 0 v7_4).bind fun v20_10 =>
  (aLoad false 1 vs_6 v20_10).bind fun v21_11 =>
  mkLit 1 1 (.int .i64 0) [(0, v21_11)] vs_6 fun v22_12 vs_13 =>
  (aApp 1 x5 v22_12 vs_13).bind fun v23_14 =>
  (aBin .add x11 (.int .i64 1)).bind fun v24_15 =>
  L.loop [1, 5, 9, 10, 11] [4, 5] b_impl_FactorIds_1 [x1, v23_14.1, x9, x10, v24_15] v23_14.2)
  ((aBin .add x11 (.int .i64 1)).bind fun v24_16 =>
  L.loop [1, 5, 9, 10, 11] [4, 5] b_impl_FactorIds_1 [x1, x5, x9, x10, v24_16] vs_6))
  (some ((.exit 0), [.undef, x5], st)) := (lim_loop F _ _ _ _ _).trans (by kernel_rfl)

theorem k_impl_FactorIds_1_0 (o4 : AV) (o5 : AV) (st : St) : k_impl_FactorIds_1 ((.exit 0), [o4, o5], st) =
  (resTup st o5).bind fun r => some (r, st.n) := by kernel_rfl

noncomputable def f_laws_szFactor : IFn := (F i_laws_szFactor).getD default

theorem call_laws_szFactor (a0 : AV) (a1 : AV) (n : Nat) : L.call i_laws_szFactor [a0, a1] n =
  mkNew a0 (st0 n) fun v2_1 vs_2 =>
  (aFaddr 2 v2_1).bind fun v6_3 =>
  (aLoad false 1 vs_2 v6_3).bind fun v7_4 =>
  (aSlen v7_4).bind fun v8_5 =>
  (aBin .sub a1 v8_5).bind fun v9_6 =>
  (aBin .lss v9_6 (.int .i64 0)).bind fun v11_7 =>
  cnd v11_7
  ((resTup vs_2 (.int .i64 (-1))).bind fun r => some (r, vs_2.n))
  ((aFaddr 3 v2_1).bind fun v13_8 =>
  (aLoad false 1 vs_2 v13_8).bind fun v14_9 =>
  (aSlen v14_9).bind fun v15_10 =>
  (aBin .sub v9_6 v15_10).bind fun v16_11 =>
  (aBin .lss v16_11 (.int .i64 0)).bind fun v18_12 =>
  cnd v18_12
  ((resTup vs_2 (.int .i64 (-1))).bind fun r => some (r, vs_2.n))
  ((resTup vs_2 v16_11).bind fun r => some (r, vs_2.n))) := (lim_call F _ _ _).trans (by kernel_rfl)

noncomputable def f_spec_l01In : IFn := (F i_spec_l01In).getD default

theorem call_spec_l01In (a0 : AV) (a1 : AV) (a2 : AV) (n : Nat) : L.call i_spec_l01In [a0, a1, a2] n =
  (aBin .geq a0 a1).bind fun v9_1 =>
  cnd v9_1
  ((aBin .leq a0 a2).bind fun v13_2 =>
  (resTup (st0 n) v13_2).bind fun r => some (r, (st0 n).n))
  ((resTup (st0 n) (.bool false)).bind fun r => some (r, (st0 n).n)) := (lim_call F _ _ _).trans (by kernel_rfl)

noncomputable def f_spec_LoopDistance : IFn := (F i_spec_LoopDistance).getD default

theorem call_spec_LoopDistance (a0 : AV) (a1 : AV) (a2 : AV) (n : Nat) : L.call i_spec_LoopDistance [a0, a1, a2] n =
  (clV L i_spec_LoopError 0 [a0, a1, a2] (st0 n)).bind fun v13_1 =>
  (aExtr 0 v13_1.1).bind fun v14_2 =>
  (aExtr 1 v13_1.1).bind fun v15_3 =>
  mkNew zc_iii v13_1.2 fun v7_4 vs_5 =>
  (aStore 3 v7_4 v14_2 vs_5).bind fun vs_6 =>
  (aUn .not v15_3).bind fun v17_7 =>
  cnd v17_7
  ((resTup vs_6 (.int .i64 (-1))).bind fun r => some (r, vs_6.n))
  ((aFaddr 0 v7_4).bind fun v19_8 =>
  (aLoad false 1 vs_6 v19_8).bind fun v20_9 =>
  (aBin .neq v20_9 (.int .i64 0)).bind fun v21_10 =>
  cnd v21_10
  ((resTup vs_6 (.int .i64 (-1))).bind fun r => some (r, vs_6.n))
  ((aFaddr 1 v7_4).bind fun v23_11 =>
  (aLoad false 1 vs_6 v23_11).bind fun v24_12 =>
  (clV L i_spec_l17Size 0 [v24_12] vs_6).bind fun v25_13 =>
  (aFaddr 2 v7_4).bind fun v26_14 =>
  (aLoad false 1 v25_13.2 v26_14).bind fun v27_15 =>
  (clV L i_spec_l17Size 0 [v27_15] v25_13.2).bind fun v28_16 =>
  (aBin .add v25_13.1 v28_16.1).bind fun v29_17 =>
  (resTup v28_16.2 v29_17).bind fun r => some (r, v28_16.2.n))) := (lim_call F _ _ _).trans (by kernel_rfl)

noncomputable def f_laws_toFactor : IFn := (F i_laws_toFactor).getD default

theorem call_laws_toFactor (a0 : AV) (n : Nat) : L.call i_laws_toFactor [a0] n =
  mkNew a0 (st0 n) fun v1_1 vs_2 =>
  mkNew zc_iissiiii vs_2 fun v2_3 vs_4 =>
  mkNew zc_iissiiii vs_4 fun v3_5 vs_6 =>
  (aFaddr 0 v1_1).bind fun v4_7 =>
  (aLoad false 1 vs_6 v4_7).bind fun v5_8 =>
  (aFaddr 0 v3_5).bind fun v6_9 =>
  (aStore 1 v6_9 v5_8 vs_6).bind fun vs_10 =>
  (aFaddr 1 v1_1).bind fun v7_11 =>
  (aLoad false 1 vs_10 v7_11).bind fun v8_12 =>
  (aFaddr 1 v3_5).bind fun v9_13 =>
  (aStore 1 v9_13 v8_12 vs_10).bind fun vs_14 =>
  (aFaddr 2 v1_1).bind fun v10_15 =>
  (aLoad false 1 vs_14 v10_15).bind fun v11_16 =>
  (aFaddr 2 v3_5).bind fun v12_17 =>
  (aStore 1 v12_17 v11_16 vs_14).bind fun vs_18 =>
  (aFaddr 3 v1_1).bind fun v13_19 =>
  (aLoad false 1 vs_18 v13_19).bind fun v14_20 =>
  (aFaddr 3 v3_5).bind fun v15_21 =>
  (aStore 1 v15_21 v14_20 vs_18).bind fun vs_22 =>
  (aFaddr 4 v1_1).bind fun v16_23 =>
  (aLoad true 3 vs_22 v16_23).bind fun v17_24 =>
  (clV L i_laws_toPose 0 [v17_24] vs_22).bind fun v18_25 =>
  (aFaddr 4 v3_5).bind fun v19_26 =>
  (aStore 3 v19_26 v18_25.1 v18_25.2).bind fun vs_27 =>
  (aFaddr 7 v1_1).bind fun v20_28 =>
  (aLoad false 1 vs_27 v20_28).bind fun v21_29 =>
  (aFaddr 7 v3_5).bind fun v22_30 =>
  (aStore 1 v22_30 v21_29 vs_27).bind fun vs_31 =>
  (aLoad true 8 vs_31 v3_5).bind fun v23_32 =>
  (aStore 8 v2_3 v23_32 vs_31).bind fun vs_33 =>
  ((aLoad true 8 vs_33 v2_3).bind fun vr_34 =>
  some (vr_34 :: [])).bind fun vs =>
  (resTup vs_33 (retV vs)).bind fun r => some (r, vs_33.n) := (lim_call F _ _ _).trans (by kernel_rfl)

noncomputable def f_impl_LoopDistance : IFn := (F i_impl_LoopDistance).getD default

theorem call_impl_LoopDistance (a0 : AV) (a1 : AV) (a2 : AV) (n : Nat) : L.call i_impl_LoopDistance [a0, a1, a2] n =
  (clV L i_impl_LoopError 0 [a0, a1, a2] (st0 n)).bind fun v13_1 =>
  (aExtr 0 v13_1.1).bind fun v14_2 =>
  (aExtr 1 v13_1.1).bind fun v15_3 =>
  mkNew zc_iii v13_1.2 fun v7_4 vs_5 =>
  (aStore 3 v7_4 v14_2 vs_5).bind fun vs_6 =>
  (aUn .not v15_3).bind fun v17_7 =>
  cnd v17_7
  ((resTup vs_6 (.int .i64 (-1))).bind fun r => some (r, vs_6.n))
  ((aFaddr 0 v7_4).bind fun v19_8 =>
  (aLoad false 1 vs_6 v19_8).bind fun v20_9 =>
  (aBin .neq v20_9 (.int .i64 0)).bind fun v21_10 =>
  cnd v21_10
  ((resTup vs_6 (.int .i64 (-1))).bind fun r => some (r, vs_6.n))
  ((aFaddr 1 v7_4).bind fun v23_11 =>
  (aLoad false 1 vs_6 v23_11).bind fun v24_12 =>
  (clV L i_impl_absOf 0 [v24_12] vs_6).bind fun v25_13 =>
  (aFaddr 2 v7_4).bind fun v26_14 =>
  (aLoad false 1 v25_13.2 v26_14).bind fun v27_15 =>
  (clV L i_impl_absOf 0 [v27_15] v25_13.2).bind fun v28_16 =>
  (aBin .add v25_13.1 v28_16.1).bind fun v29_17 =>
  (resTup v28_16.2 v29_17).bind fun r => some (r, v28_16.2.n))) := (lim_call F _ _ _).trans (by kernel_rfl)

noncomputable def f_laws_eqFactor : IFn := (F i_laws_eqFactor).getD default

theorem call_laws_eqFactor (a0 : AV) (a1 : AV) (n : Nat) : L.call i_laws_eqFactor [a0, a1] n =
  mkNew a0 (st0 n) fun v2_1 vs_2 =>
  mkNew a1 vs_2 fun v3_3 vs_4 =>
  (aFaddr 0 v2_1).bind fun v5_5 =>
  (aLoad false 1 vs_4 v5_5).bind fun v6_6 =>
  (aFaddr 0 v3_3).bind fun v7_7 =>
  (aLoad false 1 vs_4 v7_7).bind fun v8_8 =>
  (aBin .neq v6_6 v8_8).bind fun v9_9 =>
  cnd v9_9
  ((resTup vs_4 (.bool false)).bind fun r => some (r, vs_4.n))
  ((aFaddr 1 v2_1).bind fun v10_10 =>
  (aLoad false 1 vs_4 v10_10).bind fun v11_11 =>
  (aFaddr 1 v3_3).bind fun v12_12 =>
  (aLoad false 1 vs_4 v12_12).bind fun v13_13 =>
  (aBin .neq v11_11 v13_13).bind fun v14_14 =>
  cnd v14_14
  ((resTup vs_4 (.bool false)).bind fun r => some (r, vs_4.n))
  ((aFaddr 2 v2_1).bind fun v15_15 =>
  (aLoad false 1 vs_4 v15_15).bind fun v16_16 =>
  (aFaddr 2 v3_3).bind fun v17_17 =>
  (aLoad false 1 vs_4 v17_17).bind fun v18_18 =>
  (aBin .neq v16_16 v18_18).bind fun v19_19 =>
  cnd v19_19
  ((resTup vs_4 (.bool false)).bind fun r => some (r, vs_4.n))
  ((aFaddr 3 v2_1).bind fun v20_20 =>
  (aLoad false 1 vs_4 v20_20).bind fun v21_21 =>
  (aFaddr 3 v3_3).bind fun v22_22 =>
  (aLoad false 1 vs_4 v22_22).bind fun v23_23 =>
  (aBin .neq v21_21 v23_23).bind fun v24_24 =>
  cnd v24_24
  ((resTup vs_4 (.bool false)).bind fun r => some (r, vs_4.n))
  ((aFaddr 4 v2_1).bind fun v25_25 =>
  (aLoad true 3 vs_4 v25_25).bind fun v26_26 =>
  (aFaddr 4 v3_3).bind fun v27_27 =>
  (aLoad true 3 vs_4 v27_27).bind fun v28_28 =>
  (clV L i_laws_eqPose 0 [v26_26, v28_28] vs_4).bind fun v29_29 =>
  (aUn .not v29_29.1).bind fun v30_30 =>
  cnd v30_30
  ((resTup v29_29.2 (.bool false)).bind fun r => some (r, v29_29.2.n))
  ((aFaddr 7 v2_1).bind fun v31_31 =>
  (aLoad false 1 v29_29.2 v31_31).bind fun v32_32 =>
  (aFaddr 7 v3_3).bind fun v33_33 =>
  (aLoad false 1 v29_29.2 v33_33).bind fun v34_34 =>
  (aBin .neq v32_32 v34_34).bind fun v35_35 =>
  cnd v35_35
  ((resTup v29_29.2 (.bool false)).bind fun r => some (r, v29_29.2.n))
  ((resTup v29_29.2 (.bool true)).bind fun r => some (r, v29_29.2.n))))))) := (lim_call F _ _ _).trans (by kernel_rfl)

noncomputable def f_spec_FactorIds : IFn := (F i_spec_FactorIds).getD default

noncomputable def b_spec_FactorIds_1 : ICode := loopAt f_spec_FactorIds.code 0

noncomputable def k_spec_FactorIds_1 : XT × List AV × St → Option (AV × Nat) := resK L f_spec_FactorIds.code [true, true, false, true] (callK f_spec_FactorIds.rs)

theorem call_spec_FactorIds (a0 : AV) (a1 : AV) (n : Nat) : L.call i_spec_FactorIds [a0, a1] n =
  mkLit 0 1 (.int .i64 0) [] (st0 n) fun v8_1 vs_2 =>
  (aLen a0).bind fun v10_3 =>
  (L.loop [1, 5, 9, 10, 11] [4, 5] b_spec_FactorIds_1 [a1, v8_1, a0, v10_3, (.int .i64 0)] vs_2).bind k_spec_FactorIds_1 := (lim_call F _ _ _).trans (by kernel_rfl)

theorem loop_spec_FactorIds_1 (x1 : AV) (x5 : AV) (x9 : AV) (x10 : AV) (x11 : AV) (st : St) : L.loop [1, 5, 9, 10, 11] [4, 5] b_spec_FactorIds_1 [x1, x5, x9, x10, x11] st =
  (aBin .lss x11 x10).bind fun v12_1 =>
  cnd v12_1
  ((aIaddr 8 x9 x11).bind fun v13_2 =>
  (aLoad true 8 st v13_2).bind fun v14_3 =>
  mkNew zc_iissiiii st fun v7_4 vs_5 =>
  (aStore 8 v7_4 v14_3 vs_5).bind fun vs_6 =>
  (aFaddr 1 v7_4).bind fun v15_7 =>
  (aLoad false 1 vs_6 v15_7).bind fun v16_8 =>
  (aBin .eql v16_8 x1).bind fun v18_9 =>
  cnd v18_9
  ((aFaddr 0 v7_4).bind fun v20_10 =>
  (aLoad false 1 vs_6 v20_10).bind fun v21_11 =>
  mkLit 1 1 (.int .i64 0) [(0, v21_11)] vs_6 fun v22_12 vs_13 =>
  (aApp 1 x5 v22_12 vs_13).bind fun v23_14 =>
  (aBin .add x11 (.int .i64 1)).bind fun v24_15 =>
  L.loop [1, 5, 9, 10, 11] [4, 5] b_spec_FactorIds_1 [x1, v23_14.1, x9, x10, v24_15] v23_14.2)
  ((aBin .add x11 (.int .i64 1)).bind fun v24_16 =>
  L.loop [1, 5, 9, 10, 11] [4, 5] b_spec_FactorIds_1 [x1, x5, x9, x10, v24_16] vs_6))
  (some ((.exit 0), [.undef, x5], st)) := (lim_loop F _ _ _ _ _).trans (by kernel_rfl)

theorem k_spec_FactorIds_1_0 (o4 : AV) (o5 : AV) (st : St) : k_spec_FactorIds_1 ((.exit 0), [o4, o5], st) =
  (resTup st o5).bind fun r => some (r, st.n) := by kernel_rfl

noncomputable def f_spec_IsFactorList : IFn := (F i_spec_IsFactorList).getD default

noncomputable def b_spec_IsFactorList_1 : ICode := loopAt f_spec_IsFactorList.code 0

noncomputable def k_spec_IsFactorList_1 : XT × List AV × St → Option (AV × Nat) := resK L f_spec_IsFactorList.code [true, false, true] (callK f_spec_IsFactorList.rs)

theorem call_spec_IsFactorList (a0 : AV) (n : Nat) : L.call i_spec_IsFactorList [a0] n =
  (aLen a0).bind fun v6_1 =>
  (L.loop [0, 5, 6, 7] [0, 2] b_spec_IsFactorList_1 [a0, a0, v6_1, (.int .i64 0)] (st0 n)).bind k_spec_IsFactorList_1 := (lim_call F _ _ _).trans (by kernel_rfl)

theorem loop_spec_IsFactorList_1 (x0 : AV) (x5 : AV) (x6 : AV) (x7 : AV) (st : St) : L.loop [0, 5, 6, 7] [0, 2] b_spec_IsFactorList_1 [x0, x5, x6, x7] st =
  (aBin .lss x7 x6).bind fun v8_1 =>
  cnd v8_1
  ((aIaddr 8 x5 x7).bind fun v10_2 =>
  (aLoad true 8 st v10_2).bind fun v11_3 =>
  mkNew zc_iissiiii st fun v4_4 vs_5 =>
  (aStore 8 v4_4 v11_3 vs_5).bind fun vs_6 =>
  (aLoad true 8 vs_6 v4_4).bind fun v12_7 =>
  (clV L i_spec_IsValidFactor 0 [v12_7] vs_6).bind fun v13_8 =>
  (aUn .not v13_8.1).bind fun v14_9 =>
  cnd v14_9
  (some (.ret, [x0, (.bool false)], v13_8.2))
  ((aBin .gtr x7 (.int .i64 0)).bind fun v17_10 =>
  cnd v17_10
  ((aBin .sub x7 (.int .i64 1)).bind fun v21_11 =>
  (aIaddr 8 x0 v21_11).bind fun v22_12 =>
  (aFaddr 0 v22_12).bind fun v23_13 =>
  (aLoad false 1 v13_8.2 v23_13).bind fun v24_14 =>
  (aFaddr 0 v4_4).bind fun v25_15 =>
  (aLoad false 1 v13_8.2 v25_15).bind fun v26_16 =>
  (aBin .geq v24_14 v26_16).bind fun v27_17 =>
  cnd v27_17
  (some (.ret, [x0, (.bool false)], v13_8.2))
  ((aBin .add x7 (.int .i64 1)).bind fun v30_18 =>
  L.loop [0, 5, 6, 7] [0, 2] b_spec_IsFactorList_1 [x0, x5, x6, v30_18] v13_8.2))
  ((aBin .add x7 (.int .i64 1)).bind fun v30_19 =>
  L.loop [0, 5, 6, 7] [0, 2] b_spec_IsFactorList_1 [x0, x5, x6, v30_19] v13_8.2)))
  (some ((.exit 0), [x0, .undef], st)) := (lim_loop F _ _ _ _ _).trans (by kernel_rfl)

theorem k_spec_IsFactorList_1_ret (o0 : AV) (o2 : AV) (st : St) : k_spec_IsFactorList_1 (.ret, [o0, o2], st) =
  (resTup st o2).bind fun r => some (r, st.n) := by kernel_rfl

theorem k_spec_IsFactorList_1_0 (o0 : AV) (o2 : AV) (st : St) : k_spec_IsFactorList_1 ((.exit 0), [o0, o2], st) =
  (aLen o0).bind fun v32_1 =>
  (aBin .leq v32_1 (.int .i64 40)).bind fun v33_2 =>
  cnd v33_2
  ((clV L i_spec_NamesOf 0 [o0] st).bind fun v36_3 =>
  (aLen v36_3.1).bind fun v37_4 =>
  (aBin .lss v37_4 (.int .i64 10)).bind fun v38_5 =>
  (resTup v36_3.2 v38_5).bind fun r => some (r, v36_3.2.n))
  ((resTup st (.bool false)).bind fun r => some (r, st.n)) := by kernel_rfl

noncomputable def f_laws_eqBoolS : IFn := (F i_laws_eqBoolS).getD default

noncomputable def b_laws_eqBoolS_1 : ICode := loopAt f_laws_eqBoolS.code 0

noncomputable def k_laws_eqBoolS_1 : XT × List AV × St → Option (AV × Nat) := resK L f_laws_eqBoolS.code [true, true, false, true] (callK f_laws_eqBoolS.rs)

theorem call_laws_eqBoolS (a0 : AV) (a1 : AV) (n : Nat) : L.call i_laws_eqBoolS [a0, a1] n =
  (aLen a0).bind fun v7_1 =>
  (aLen a1).bind fun v9_2 =>
  (aBin .neq v7_1 v9_2).bind fun v10_3 =>
  cnd v10_3
  ((resTup (st0 n) (.bool false)).bind fun r => some (r, (st0 n).n))
  ((L.loop [0, 1, 5] [4] b_laws_eqBoolS_1 [a0, a1, (.int .i64 0)] (st0 n)).bind k_laws_eqBoolS_1) := (lim_call F _ _ _).trans (by kernel_rfl)

theorem loop_laws_eqBoolS_1 (x0 : AV) (x1 : AV) (x5 : AV) (st : St) : L.loop [0, 1, 5] [4] b_laws_eqBoolS_1 [x0, x1, x5] st =
  (aLen x0).bind fun v13_1 =>
  (aBin .lss x5 v13_1).bind fun v14_2 =>
  cnd v14_2
  ((aIaddr 1 x0 x5).bind fun v19_3 =>
  (aLoad false 1 st v19_3).bind fun v20_4 =>
  (aIaddr 1 x1 x5).bind fun v23_5 =>
  (aLoad false 1 st v23_5).bind fun v24_6 =>
  (aBinb .neq v20_4 v24_6).bind fun v25_7 =>
  cnd v25_7
  (some (.ret, [(.bool false)], st))
  ((aBin .add x5 (.int .i64 1)).bind fun v16_8 =>
  L.loop [0, 1, 5] [4] b_laws_eqBoolS_1 [x0, x1, v16_8] st))
  (some ((.exit 0), [.undef], st)) := (lim_loop F _ _ _ _ _).trans (by kernel_rfl)

theorem k_laws_eqBoolS_1_ret (o4 : AV) (st : St) : k_laws_eqBoolS_1 (.ret, [o4], st) =
  (resTup st o4).bind fun r => some (r, st.n) := by kernel_rfl

theorem k_laws_eqBoolS_1_0 (o4 : AV) (st : St) : k_laws_eqBoolS_1 ((.exit 0), [o4], st) =
  (resTup st (.bool true)).bind fun r => some (r, st.n) := by kernel_rfl

noncomputable def f_laws_markText : IFn := (F i_laws_markText).getD default

noncomputable def b_laws_markText_1 : ICode := loopAt f_laws_markText.code 0

noncomputable def k_laws_markText_1 : XT × List AV × St → Option (AV × Nat) := resK L f_laws_markText.code [true, true, true, false] (callK f_laws_markText.rs)

theorem call_laws_markText (a0 : AV) (n : Nat) : L.call i_laws_markText [a0] n =
  (aBin .leq a0 (.int .i64 0)).bind fun v5_1 =>
  cnd v5_1
  ((resTup (st0 n) (.str ⟨#[109, 48]⟩)).bind fun r => some (r, (st0 n).n))
  ((L.loop [0, 3] [2, 3] b_laws_markText_1 [a0, (.str ⟨#[]⟩)] (st0 n)).bind k_laws_markText_1) := (lim_call F _ _ _).trans (by kernel_rfl)

theorem loop_laws_markText_1 (x0 : AV) (x3 : AV) (st : St) : L.loop [0, 3] [2, 3] b_laws_markText_1 [x0, x3] st =
  (aBin .gtr x0 (.int .i64 0)).bind fun v7_1 =>
  cnd v7_1
  ((aBin .rem x0 (.int .i64 10)).bind fun v9_2 =>
  (aBin .add (.int .i64 48) v9_2).bind fun v10_3 =>
  (aConv .u8 v10_3).bind fun v11_4 =>
  mkLit 1 1 (.int .u8 0) [(0, v11_4)] st fun v12_5 vs_6 =>
  (aB2s vs_6 v12_5).bind fun v13_7 =>
  (aBin .add v13_7 x3).bind fun v15_8 =>
  (aBin .quo x0 (.int .i64 10)).bind fun v17_9 =>
  L.loop [0, 3] [2, 3] b_laws_markText_1 [v17_9, v15_8] vs_6)
  (some ((.exit 0), [.undef, x3], st)) := (lim_loop F _ _ _ _ _).trans (by kernel_rfl)

theorem k_laws_markText_1_0 (o2 : AV) (o3 : AV) (st : St) : k_laws_markText_1 ((.exit 0), [o2, o3], st) =
  (aBin .add (.str ⟨#[109]⟩) o3).bind fun v19_1 =>
  (resTup st v19_1).bind fun r => some (r, st.n) := by kernel_rfl

noncomputable def f_laws_markBoolS : IFn := (F i_laws_markBoolS).getD default

noncomputable def b_laws_markBoolS_1 : ICode := loopAt f_laws_markBoolS.code 0

noncomputable def k_laws_markBoolS_1 : XT × List AV × St → Option (AV × Nat) := resK L f_laws_markBoolS.code [true, false, true] (callK f_laws_markBoolS.rs)

theorem call_laws_markBoolS (a0 : AV) (a1 : AV) (n : Nat) : L.call i_laws_markBoolS [a0, a1] n =
  (L.loop [0, 1, 5] [1, 4] b_laws_markBoolS_1 [a0, a1, (.int .i64 0)] (st0 n)).bind k_laws_markBoolS_1 := (lim_call F _ _ _).trans (by kernel_rfl)

theorem loop_laws_markBoolS_1 (x0 : AV) (x1 : AV) (x5 : AV) (st : St) : L.loop [0, 1, 5] [1, 4] b_laws_markBoolS_1 [x0, x1, x5] st =
  (aLen x0).bind fun v8_1 =>
  (aBin .lss x5 v8_1).bind fun v9_2 =>
  cnd v9_2
  ((aBin .rem x1 (.int .i64 3)).bind fun v15_3 =>
  (aBin .eql v15_3 (.int .i64 0)).bind fun v16_4 =>
  (aIaddr 1 x0 x5).bind fun v17_5 =>
  (aStore 1 v17_5 v16_4 st).bind fun vs_6 =>
  (aBin .add x1 (.int .i64 1)).bind fun v19_7 =>
  (aBin .add x5 (.int .i64 1)).bind fun v11_8 =>
  L.loop [0, 1, 5] [1, 4] b_laws_markBoolS_1 [x0, v19_7, v11_8] vs_6)
  (some ((.exit 0), [x1, .undef], st)) := (lim_loop F _ _ _ _ _).trans (by kernel_rfl)

theorem k_laws_markBoolS_1_0 (o1 : AV) (o4 : AV) (st : St) : k_laws_markBoolS_1 ((.exit 0), [o1, o4], st) =
  (resTup st o1).bind fun r => some (r, st.n) := by kernel_rfl

noncomputable def k_laws_markBoolS_1i : XT × List AV × St → Option (AV × St) := resK L f_laws_markBoolS.code [true, false, true] (inlK f_laws_markBoolS.rs)

theorem inl_laws_markBoolS (a0 : AV) (a1 : AV) (st : St) : L.inl i_laws_markBoolS [a0, a1] st =
  (L.loop [0, 1, 5] [1, 4] b_laws_markBoolS_1 [a0, a1, (.int .i64 0)] st).bind k_laws_markBoolS_1i := (lim_inl F _ _ _).trans (by kernel_rfl)

theorem k_laws_markBoolS_1i_0 (o1 : AV) (o4 : AV) (st : St) : k_laws_markBoolS_1i ((.exit 0), [o1, o4], st) =
  some (o1, st) := by kernel_rfl

noncomputable def f_laws_heldBoolS : IFn := (F i_laws_heldBoolS).getD default

noncomputable def b_laws_heldBoolS_1 : ICode := loopAt f_laws_heldBoolS.code 0

noncomputable def k_laws_heldBoolS_1 : XT × List AV × St → Option (AV × Nat) := resK L f_laws_heldBoolS.code [true, false, true] (callK f_laws_heldBoolS.rs)

theorem call_laws_heldBoolS (a0 : AV) (a1 : AV) (n : Nat) : L.call i_laws_heldBoolS [a0, a1] n =
  (L.loop [0, 1, 5] [1, 4] b_laws_heldBoolS_1 [a0, a1, (.int .i64 0)] (st0 n)).bind k_laws_heldBoolS_1 := (lim_call F _ _ _).trans (by kernel_rfl)

theorem loop_laws_heldBoolS_1 (x0 : AV) (x1 : AV) (x5 : AV) (st : St) : L.loop [0, 1, 5] [1, 4] b_laws_heldBoolS_1 [x0, x1, x5] st =
  (aLen x0).bind fun v8_1 =>
  (aBin .lss x5 v8_1).bind fun v9_2 =>
  cnd v9_2
  ((aIaddr 1 x0 x5).bind fun v14_3 =>
  (aLoad false 1 st v14_3).bind fun v15_4 =>
  (aBin .rem x1 (.int .i64 3)).bind fun v17_5 =>
  (aBin .eql v17_5 (.int .i64 0)).bind fun v18_6 =>
  (aBinb .neq v15_4 v18_6).bind fun v19_7 =>
  cnd v19_7
  (some (.ret, [x1, (.int .i64 (-1))], st))
  ((aBin .add x1 (.int .i64 1)).bind fun v21_8 =>
  (aBin .add x5 (.int .i64 1)).bind fun v11_9 =>
  L.loop [0, 1, 5] [1, 4] b_laws_heldBoolS_1 [x0, v21_8, v11_9] st))
  (some ((.exit 0), [x1, .undef], st)) := (lim_loop F _ _ _ _ _).trans (by kernel_rfl)

theorem k_laws_heldBoolS_1_ret (o1 : AV) (o4 : AV) (st : St) : k_laws_heldBoolS_1 (.ret, [o1, o4], st) =
  (resTup st o4).bind fun r => some (r, st.n) := by kernel_rfl

theorem k_laws_heldBoolS_1_0 (o1 : AV) (o4 : AV) (st : St) : k_laws_heldBoolS_1 ((.exit 0), [o1, o4], st) =
  (resTup st o1).bind fun r => some (r, st.n) := by kernel_rfl

noncomputable def f_impl_LoopOf : IFn := (F i_impl_LoopOf).getD default

theorem call_impl_LoopOf (a0 : AV) (a1 : AV) (n : Nat) : L.call i_impl_LoopOf [a0, a1] n =
  mkNew zc_iissiiii (st0 n) fun v4_1 vs_2 =>
  (clV L i_impl_findFactor 0 [a0, a1] vs_2).bind fun v13_3 =>
  (clV L i_impl_IsFactorList 0 [a0] v13_3.2).bind fun v15_4 =>
  (aUn .not v15_4.1).bind fun v16_5 =>
  cnd v16_5
  ((aStore 8 v4_1 zc_iissiiii v15_4.2).bind fun vs_9 =>
  ((aLoad true 8 vs_9 v4_1).bind fun vr_10 =>
  some (vr_10 :: [(.bool false)])).bind fun vs =>
  (resTup vs_9 (retV vs)).bind fun r => some (r, vs_9.n))
  ((aBin .lss v13_3.1 (.int .i64 0)).bind fun v19_11 =>
  cnd v19_11
  ((aStore 8 v4_1 zc_iissiiii v15_4.2).bind fun vs_15 =>
  ((aLoad true 8 vs_15 v4_1).bind fun vr_16 =>
  some (vr_16 :: [(.bool false)])).bind fun vs =>
  (resTup vs_15 (retV vs)).bind fun r => some (r, vs_15.n))
  ((aIaddr 8 a0 v13_3.1).bind fun v24_17 =>
  (aFaddr 1 v24_17).bind fun v25_18 =>
  (aLoad false 1 v15_4.2 v25_18).bind fun v26_19 =>
  (aBin .neq v26_19 (.int .i64 4)).bind fun v27_20 =>
  cnd v27_20
  ((aStore 8 v4_1 zc_iissiiii v15_4.2).bind fun vs_24 =>
  ((aLoad true 8 vs_24 v4_1).bind fun vr_25 =>
  some (vr_25 :: [(.bool false)])).bind fun vs =>
  (resTup vs_24 (retV vs)).bind fun r => some (r, vs_24.n))
  ((aIaddr 8 a0 v13_3.1).bind fun v34_26 =>
  (aFaddr 2 v34_26).bind fun v35_27 =>
  (aLoad false 1 v15_4.2 v35_27).bind fun v36_28 =>
  (clV L i_impl_KnownPose 0 [a0, v36_28] v15_4.2).bind fun v37_29 =>
  (aExtr 0 v37_29.1).bind fun v38_30 =>
  (aExtr 1 v37_29.1).bind fun v39_31 =>
  mkNew zc_iii v37_29.2 fun v7_32 vs_33 =>
  (aStore 3 v7_32 v38_30 vs_33).bind fun vs_34 =>
  (aIaddr 8 a0 v13_3.1).bind fun v44_35 =>
  (aFaddr 3 v44_35).bind fun v45_36 =>
  (aLoad false 1 vs_34 v45_36).bind fun v46_37 =>
  (clV L i_impl_KnownPose 0 [a0, v46_37] vs_34).bind fun v47_38 =>
  (aExtr 0 v47_38.1).bind fun v48_39 =>
  (aExtr 1 v47_38.1).bind fun v49_40 =>
  mkNew zc_iii v47_38.2 fun v9_41 vs_42 =>
  (aStore 3 v9_41 v48_39 vs_42).bind fun vs_43 =>
  (aUn .not v39_31).bind fun v51_44 =>
  cnd v51_44
  ((aStore 8 v4_1 zc_iissiiii vs_43).bind fun vs_48 =>
  ((aLoad true 8 vs_48 v4_1).bind fun vr_49 =>
  some (vr_49 :: [(.bool false)])).bind fun vs =>
  (resTup vs_48 (retV vs)).bind fun r => some (r, vs_48.n))
  ((aUn .not v49_40).bind fun v54_50 =>
  cnd v54_50
  ((aStore 8 v4_1 zc_iissiiii vs_43).bind fun vs_54 =>
  ((aLoad true 8 vs_54 v4_1).bind fun vr_55 =>
  some (vr_55 :: [(.bool false)])).bind fun vs =>
  (resTup vs_54 (retV vs)).bind fun r => some (r, vs_54.n))
  ((aIaddr 8 a0 v13_3.1).bind fun v59_56 =>
  (aLoad true 8 vs_43 v59_56).bind fun v60_57 =>
  (aStore 8 v4_1 v60_57 vs_43).bind fun vs_58 =>
  ((aLoad true 8 vs_58 v4_1).bind fun vr_59 =>
  some (vr_59 :: [(.bool true)])).bind fun vs =>
  (resTup vs_58 (retV vs)).bind fun r => some (r, vs_58.n)))))) := (lim_call F _ _ _).trans (by kernel_rfl)

noncomputable def f_impl_IsValidFactor : IFn := (F i_impl_IsValidFactor).getD default

theorem call_impl_IsValidFactor (a0 : AV) (n : Nat) : L.call i_impl_IsValidFactor [a0] n =
  mkNew a0 (st0 n) fun v1_1 vs_2 =>
  (aFaddr 0 v1_1).bind fun v3_3 =>
  (aLoad false 1 vs_2 v3_3).bind fun v4_4 =>
  (aBin .lss v4_4 (.int .i64 0)).bind fun v5_5 =>
  cnd v5_5
  ((resTup vs_2 (.bool false)).bind fun r => some (r, vs_2.n))
  ((aFaddr 0 v1_1).bind fun v7_6 =>
  (aLoad false 1 vs_2 v7_6).bind fun v8_7 =>
  (aBin .gtr v8_7 (.int .i64 99999)).bind fun v9_8 =>
  cnd v9_8
  ((resTup vs_2 (.bool false)).bind fun r => some (r, vs_2.n))
  ((aFaddr 4 v1_1).bind fun v12_9 =>
  (aLoad true 3 vs_2 v12_9).bind fun v13_10 =>
  (clV L i_impl_IsValidPose 0 [v13_10] vs_2).bind fun v14_11 =>
  (aUn .not v14_11.1).bind fun v15_12 =>
  cnd v15_12
  ((resTup v14_11.2 (.bool false)).bind fun r => some (r, v14_11.2.n))
  ((aFaddr 7 v1_1).bind fun v18_13 =>
  (aLoad false 1 v14_11.2 v18_13).bind fun v19_14 =>
  (aBin .lss v19_14 (.int .i64 1)).bind fun v20_15 =>
  cnd v20_15
  ((resTup v14_11.2 (.bool false)).bind fun r => some (r, v14_11.2.n))
  ((aFaddr 7 v1_1).bind fun v23_16 =>
  (aLoad false 1 v14_11.2 v23_16).bind fun v24_17 =>
  (aBin .gtr v24_17 (.int .i64 9999)).bind fun v25_18 =>
  cnd v25_18
  ((resTup v14_11.2 (.bool false)).bind fun r => some (r, v14_11.2.n))
  ((aFaddr 1 v1_1).bind fun v27_19 =>
  (aLoad false 1 v14_11.2 v27_19).bind fun v28_20 =>
  (aBin .eql v28_20 (.int .i64 1)).bind fun v30_21 =>
  cnd v30_21
  ((aFaddr 2 v1_1).bind fun v31_22 =>
  (aLoad false 1 v14_11.2 v31_22).bind fun v32_23 =>
  (aBin .eql v32_23 (.str ⟨#[]⟩)).bind fun v33_24 =>
  cnd v33_24
  ((aFaddr 3 v1_1).bind fun v35_25 =>
  (aLoad false 1 v14_11.2 v35_25).bind fun v36_26 =>
  (clV L i_impl_IsPoseName 0 [v36_26] v14_11.2).bind fun v37_27 =>
  (resTup v37_27.2 v37_27.1).bind fun r => some (r, v37_27.2.n))
  ((resTup v14_11.2 (.bool false)).bind fun r => some (r, v14_11.2.n)))
  ((aBin .eql v28_20 (.int .i64 2)).bind fun v40_28 =>
  cnd v40_28
  ((aFaddr 2 v1_1).bind fun v42_29 =>
  (aLoad false 1 v14_11.2 v42_29).bind fun v43_30 =>
  (clV L i_impl_IsPoseName 0 [v43_30] v14_11.2).bind fun v44_31 =>
  cnd v44_31.1
  ((aFaddr 3 v1_1).bind fun v46_32 =>
  (aLoad false 1 v44_31.2 v46_32).bind fun v47_33 =>
  (clV L i_impl_IsPoseName 0 [v47_33] v44_31.2).bind fun v48_34 =>
  cnd v48_34.1
  ((aFaddr 2 v1_1).bind fun v51_35 =>
  (aLoad false 1 v48_34.2 v51_35).bind fun v52_36 =>
  (aFaddr 3 v1_1).bind fun v53_37 =>
  (aLoad false 1 v48_34.2 v53_37).bind fun v54_38 =>
  (aBin .neq v52_36 v54_38).bind fun v55_39 =>
  (resTup v48_34.2 v55_39).bind fun r => some (r, v48_34.2.n))
  ((resTup v48_34.2 (.bool false)).bind fun r => some (r, v48_34.2.n)))
  ((resTup v44_31.2 (.bool false)).bind fun r => some (r, v44_31.2.n)))
  ((aBin .eql v28_20 (.int .i64 4)).bind fun v41_40 =>
  cnd v41_40
  ((aFaddr 2 v1_1).bind fun v42_41 =>
  (aLoad false 1 v14_11.2 v42_41).bind fun v43_42 =>
  (clV L i_impl_IsPoseName 0 [v43_42] v14_11.2).bind fun v44_43 =>
  cnd v44_43.1
  ((aFaddr 3 v1_1).bind fun v46_44 =>
  (aLoad false 1 v44_43.2 v46_44).bind fun v47_45 =>
  (clV L i_impl_IsPoseName 0 [v47_45] v44_43.2).bind fun v48_46 =>
  cnd v48_46.1
  ((aFaddr 2 v1_1).bind fun v51_47 =>
  (aLoad false 1 v48_46.2 v51_47).bind fun v52_48 =>
  (aFaddr 3 v1_1).bind fun v53_49 =>
  (aLoad false 1 v48_46.2 v53_49).bind fun v54_50 =>
  (aBin .neq v52_48 v54_50).bind fun v55_51 =>
  (resTup v48_46.2 v55_51).bind fun r => some (r, v48_46.2.n))
  ((resTup v48_46.2 (.bool false)).bind fun r => some (r, v48_46.2.n)))
  ((resTup v44_43.2 (.bool false)).bind fun r => some (r, v44_43.2.n)))
  ((aBin .eql v28_20 (.int .i64 3)).bind fun v58_52 =>
  cnd v58_52
  ((aFaddr 2 v1_1).bind fun v59_53 =>
  (aLoad false 1 v14_11.2 v59_53).bind fun v60_54 =>
  (clV L i_impl_IsPoseName 0 [v60_54] v14_11.2).bind fun v61_55 =>
  cnd v61_55.1
  ((aFaddr 3 v1_1).bind fun v63_56 =>
  (aLoad false 1 v61_55.2 v63_56).bind fun v64_57 =>
  (clV L i_impl_IsLandmarkName 0 [v64_57] v61_55.2).bind fun v65_58 =>
  cnd v65_58.1
  ((aFaddr 4 v1_1).bind fun v68_59 =>
  (aFaddr 0 v68_59).bind fun v69_60 =>
  (aLoad false 1 v65_58.2 v69_60).bind fun v70_61 =>
  (aBin .eql v70_61 (.int .i64 0)).bind fun v71_62 =>
  (resTup v65_58.2 v71_62).bind fun r => some (r, v65_58.2.n))
  ((resTup v65_58.2 (.bool false)).bind fun r => some (r, v65_58.2.n)))
  ((resTup v61_55.2 (.bool false)).bind fun r => some (r, v61_55.2.n)))
  ((resTup v14_11.2 (.bool false)).bind fun r => some (r, v14_11.2.n)))))))))) := (lim_call F _ _ _).trans (by kernel_rfl)

noncomputable def f_impl_NamesOf : IFn := (F i_impl_NamesOf).getD default

noncomputable def b_impl_NamesOf_1 : ICode := loopAt f_impl_NamesOf.code 0

noncomputable def k_impl_NamesOf_1 : XT × List AV × St → Option (AV × Nat) := resK L f_impl_NamesOf.code [true, true, false, true] (callK f_impl_NamesOf.rs)

theorem call_impl_NamesOf (a0 : AV) (n : Nat) : L.call i_impl_NamesOf [a0] n =
  mkLit 0 1 (.str ⟨#[]⟩) [] (st0 n) fun v6_1 vs_2 =>
  (aLen a0).bind fun v8_3 =>
  (L.loop [3, 7, 8, 9] [2, 3] b_impl_NamesOf_1 [v6_1, a0, v8_3, (.int .i64 0)] vs_2).bind k_impl_NamesOf_1 := (lim_call F _ _ _).trans (by kernel_rfl)

theorem loop_impl_NamesOf_1 (x3 : AV) (x7 : AV) (x8 : AV) (x9 : AV) (st : St) : L.loop [3, 7, 8, 9] [2, 3] b_impl_NamesOf_1 [x3, x7, x8, x9] st =
  (aBin .lss x9 x8).bind fun v10_1 =>
  cnd v10_1
  ((aIaddr 8 x7 x9).bind fun v11_2 =>
  (aLoad true 8 st v11_2).bind fun v12_3 =>
  mkNew zc_iissiiii st fun v5_4 vs_5 =>
  (aStore 8 v5_4 v12_3 vs_5).bind fun vs_6 =>
  (aFaddr 2 v5_4).bind fun v13_7 =>
  (aLoad false 1 vs_6 v13_7).bind fun v14_8 =>
  (aBin .neq v14_8 (.str ⟨#[]⟩)).bind fun v15_9 =>
  cnd v15_9
  ((aFaddr 2 v5_4).bind fun v18_10 =>
  (aLoad false 1 vs_6 v18_10).bind fun v19_11 =>
  (clV L i_impl_hasString 0 [x3, v19_11] vs_6).bind fun v20_12 =>
  (aUn .not v20_12.1).bind fun v21_13 =>
  cnd v21_13
  ((aFaddr 2 v5_4).bind fun v24_14 =>
  (aLoad false 1 v20_12.2 v24_14).bind fun v25_15 =>
  mkLit 1 1 (.str ⟨#[]⟩) [(0, v25_15)] v20_12.2 fun v26_16 vs_17 =>
  (aApp 1 x3 v26_16 vs_17).bind fun v27_18 =>
  (aFaddr 3 v5_4).bind fun v28_19 =>
  (aLoad false 1 v27_18.2 v28_19).bind fun v29_20 =>
  (aBin .neq v29_20 (.str ⟨#[]⟩)).bind fun v30_21 =>
  cnd v30_21
  ((aFaddr 3 v5_4).bind fun v33_22 =>
  (aLoad false 1 v27_18.2 v33_22).bind fun v34_23 =>
  (clV L i_impl_hasString 0 [v27_18.1, v34_23] v27_18.2).bind fun v35_24 =>
  (aUn .not v35_24.1).bind fun v36_25 =>
  cnd v36_25
  ((aFaddr 3 v5_4).bind fun v39_26 =>
  (aLoad false 1 v35_24.2 v39_26).bind fun v40_27 =>
  mkLit 1 1 (.str ⟨#[]⟩) [(0, v40_27)] v35_24.2 fun v41_28 vs_29 =>
  (aApp 1 v27_18.1 v41_28 vs_29).bind fun v42_30 =>
  (aBin .add x9 (.int .i64 1)).bind fun v43_31 =>
  L.loop [3, 7, 8, 9] [2, 3] b_impl_NamesOf_1 [v42_30.1, x7, x8, v43_31] v42_30.2)
  ((aBin .add x9 (.int .i64 1)).bind fun v43_32 =>
  L.loop [3, 7, 8, 9] [2, 3] b_impl_NamesOf_1 [v27_18.1, x7, x8, v43_32] v35_24.2))
  ((aBin .add x9 (.int .i64 1)).bind fun v43_33 =>
  L.loop [3, 7, 8, 9] [2, 3] b_impl_NamesOf_1 [v27_18.1, x7, x8, v43_33] v27_18.2))
  ((aFaddr 3 v5_4).bind fun v28_34 =>
  (aLoad false 1 v20_12.2 v28_34).bind fun v29_35 =>
  (aBin .neq v29_35 (.str ⟨#[]⟩)).bind fun v30_36 =>
  cnd v30_36
  ((aFaddr 3 v5_4).bind fun v33_37 =>
  (aLoad false 1 v20_12.2 v33_37).bind fun v34_38 =>
  (clV L i_impl_hasString 0 [x3, v34_38] v20_12.2).bind fun v35_39 =>
  (aUn .not v35_39.1).bind fun v36_40 =>
  cnd v36_40
  ((aFaddr 3 v5_4).bind fun v39_41 =>
  (aLoad false 1 v35_39.2 v39_41).bind fun v40_42 =>
  mkLit 1 1 (.str ⟨#[]⟩) [(0, v40_42)] v35_39.2 fun v41_43 vs_44 =>
  (aApp 1 x3 v41_43 vs_44).bind fun v42_45 =>
  (aBin .add x9 (.int .i64 1)).bind fun v43_46 =>
  L.loop [3, 7, 8, 9] [2, 3] b_impl_NamesOf_1 [v42_45.1, x7, x8, v43_46] v42_45.2)
  ((aBin .add x9 (.int .i64 1)).bind fun v43_47 =>
  L.loop [3, 7, 8, 9] [2, 3] b_impl_NamesOf_1 [x3, x7, x8, v43_47] v35_39.2))
  ((aBin .add x9 (.int .i64 1)).bind fun v43_48 =>
  L.loop [3, 7, 8, 9] [2, 3] b_impl_NamesOf_1 [x3, x7, x8, v43_48] v20_12.2)))
  ((aFaddr 3 v5_4).bind fun v28_49 =>
  (aLoad false 1 vs_6 v28_49).bind fun v29_50 =>
  (aBin .neq v29_50 (.str ⟨#[]⟩)).bind fun v30_51 =>
  cnd v30_51
  ((aFaddr 3 v5_4).bind fun v33_52 =>
  (aLoad false 1 vs_6 v33_52).bind fun v34_53 =>
  (clV L i_impl_hasString 0 [x3, v34_53] vs_6).bind fun v35_54 =>
  (aUn .not v35_54.1).bind fun v36_55 =>
  cnd v36_55
  ((aFaddr 3 v5_4).bind fun v39_56 =>
  (aLoad false 1 v35_54.2 v39_56).bind fun v40_57 =>
  mkLit 1 1 (.str ⟨#[]⟩) [(0, v40_57)] v35_54.2 fun v41_58 vs_59 =>
  (aApp 1 x3 v41_58 vs_59).bind fun v42_60 =>
  (aBin .add x9 (.int .i64 1)).bind fun v43_61 =>
  L.loop [3, 7, 8, 9] [2, 3] b_impl_NamesOf_1 [v42_60.1, x7, x8, v43_61] v42_60.2)
  ((aBin .add x9 (.int .i64 1)).bind fun v43_62 =>
  L.loop [3, 7, 8, 9] [2, 3] b_impl_NamesOf_1 [x3, x7, x8, v43_62] v35_54.2))
  ((aBin .add x9 (.int .i64 1)).bind fun v43_63 =>
  L.loop [3, 7, 8, 9] [2, 3] b_impl_NamesOf_1 [x3, x7, x8, v43_63] vs_6)))
  (some ((.exit 0), [.undef, x3], st)) := (lim_loop F _ _ _ _ _).trans (by kernel_rfl)

theorem k_impl_NamesOf_1_0 (o2 : AV) (o3 : AV) (st : St) : k_impl_NamesOf_1 ((.exit 0), [o2, o3], st) =
  (resTup st o3).bind fun r => some (r, st.n) := by kernel_rfl

noncomputable def f_spec_l21Find : IFn := (F i_spec_l21Find).getD default

noncomputable def b_spec_l21Find_1 : ICode := loopAt f_spec_l21Find.code 0

noncomputable def k_spec_l21Find_1 : XT × List AV × St → Option (AV × Nat) := resK L f_spec_l21Find.code [true, false, true] (callK f_spec_l21Find.rs)

theorem call_spec_l21Find (a0 : AV) (a1 : AV) (n : Nat) : L.call i_spec_l21Find [a0, a1] n =
  mkNew zc_iissiiii (st0 n) fun v4_1 vs_2 =>
  (aLen a0).bind fun v9_3 =>
  (L.loop [1, 4, 8, 9, 10] [4, 5] b_spec_l21Find_1 [a1, v4_1, a0, v9_3, (.int .i64 0)] vs_2).bind k_spec_l21Find_1 := (lim_call F _ _ _).trans (by kernel_rfl)

theorem loop_spec_l21Find_1 (x1 : AV) (x4 : AV) (x8 : AV) (x9 : AV) (x10 : AV) (st : St) : L.loop [1, 4, 8, 9, 10] [4, 5] b_spec_l21Find_1 [x1, x4, x8, x9, x10] st =
  (aBin .lss x10 x9).bind fun v11_1 =>
  cnd v11_1
  ((aIaddr 8 x8 x10).bind fun v12_2 =>
  (aLoad true 8 st v12_2).bind fun v13_3 =>
  mkNew zc_iissiiii st fun v7_4 vs_5 =>
  (aStore 8 v7_4 v13_3 vs_5).bind fun vs_6 =>
  (aFaddr 0 v7_4).bind fun v14_7 =>
  (aLoad false 1 vs_6 v14_7).bind fun v15_8 =>
  (aBin .eql v15_8 x1).bind fun v17_9 =>
  cnd v17_9
  ((aFaddr 1 v7_4).bind fun v19_10 =>
  (aLoad false 1 vs_6 v19_10).bind fun v20_11 =>
  (aBin .eql v20_11 (.int .i64 4)).bind fun v21_12 =>
  cnd v21_12
  ((aLoad true 8 vs_6 v7_4).bind fun v23_13 =>
  (aStore 8 x4 v23_13 vs_6).bind fun vs_14 =>
  some (.ret, [x4, (.bool true)], vs_14))
  ((aBin .add x10 (.int .i64 1)).bind fun v24_15 =>
  L.loop [1, 4, 8, 9, 10] [4, 5] b_spec_l21Find_1 [x1, x4, x8, x9, v24_15] vs_6))
  ((aBin .add x10 (.int .i64 1)).bind fun v24_16 =>
  L.loop [1, 4, 8, 9, 10] [4, 5] b_spec_l21Find_1 [x1, x4, x8, x9, v24_16] vs_6))
  (some ((.exit 0), [x4, .undef], st)) := (lim_loop F _ _ _ _ _).trans (by kernel_rfl)

theorem k_spec_l21Find_1_ret (o4 : AV) (o5 : AV) (st : St) : k_spec_l21Find_1 (.ret, [o4, o5], st) =
  ((aLoad true 8 st o4).bind fun vr_1 =>
  some (vr_1 :: [o5])).bind fun vs =>
  (resTup st (retV vs)).bind fun r => some (r, st.n) := by kernel_rfl

theorem k_spec_l21Find_1_0 (o4 : AV) (o5 : AV) (st : St) : k_spec_l21Find_1 ((.exit 0), [o4, o5], st) =
  (aStore 8 o4 zc_iissiiii st).bind fun vs_4 =>
  ((aLoad true 8 vs_4 o4).bind fun vr_5 =>
  some (vr_5 :: [(.bool false)])).bind fun vs =>
  (resTup vs_4 (retV vs)).bind fun r => some (r, vs_4.n) := by kernel_rfl

noncomputable def f_spec_LoopOf : IFn := (F i_spec_LoopOf).getD default

theorem call_spec_LoopOf (a0 : AV) (a1 : AV) (n : Nat) : L.call i_spec_LoopOf [a0, a1] n =
  mkNew zc_iissiiii (st0 n) fun v4_1 vs_2 =>
  (clV L i_spec_l21Find 0 [a0, a1] vs_2).bind fun v15_3 =>
  (aExtr 0 v15_3.1).bind fun v16_4 =>
  (aExtr 1 v15_3.1).bind fun v17_5 =>
  mkNew zc_iissiiii v15_3.2 fun v6_6 vs_7 =>
  (aStore 8 v6_6 v16_4 vs_7).bind fun vs_8 =>
  (aFaddr 2 v6_6).bind fun v20_9 =>
  (aLoad false 1 vs_8 v20_9).bind fun v21_10 =>
  (clV L i_spec_KnownPose 0 [a0, v21_10] vs_8).bind fun v22_11 =>
  (aExtr 0 v22_11.1).bind fun v23_12 =>
  (aExtr 1 v22_11.1).bind fun v24_13 =>
  mkNew zc_iii v22_11.2 fun v8_14 vs_15 =>
  (aStore 3 v8_14 v23_12 vs_15).bind fun vs_16 =>
  (aFaddr 3 v6_6).bind fun v27_17 =>
  (aLoad false 1 vs_16 v27_17).bind fun v28_18 =>
  (clV L i_spec_KnownPose 0 [a0, v28_18] vs_16).bind fun v29_19 =>
  (aExtr 0 v29_19.1).bind fun v30_20 =>
  (aExtr 1 v29_19.1).bind fun v31_21 =>
  mkNew zc_iii v29_19.2 fun v10_22 vs_23 =>
  (aStore 3 v10_22 v30_20 vs_23).bind fun vs_24 =>
  (clV L i_spec_IsFactorList 0 [a0] vs_24).bind fun v33_25 =>
  (aUn .not v33_25.1).bind fun v34_26 =>
  cnd v34_26
  ((aStore 8 v4_1 zc_iissiiii v33_25.2).bind fun vs_30 =>
  ((aLoad true 8 vs_30 v4_1).bind fun vr_31 =>
  some (vr_31 :: [(.bool false)])).bind fun vs =>
  (resTup vs_30 (retV vs)).bind fun r => some (r, vs_30.n))
  ((aUn .not v17_5).bind fun v37_32 =>
  cnd v37_32
  ((aStore 8 v4_1 zc_iissiiii v33_25.2).bind fun vs_36 =>
  ((aLoad true 8 vs_36 v4_1).bind fun vr_37 =>
  some (vr_37 :: [(.bool false)])).bind fun vs =>
  (resTup vs_36 (retV vs)).bind fun r => some (r, vs_36.n))
  ((aUn .not v24_13).bind fun v41_38 =>
  cnd v41_38
  ((aStore 8 v4_1 zc_iissiiii v33_25.2).bind fun vs_42 =>
  ((aLoad true 8 vs_42 v4_1).bind fun vr_43 =>
  some (vr_43 :: [(.bool false)])).bind fun vs =>
  (resTup vs_42 (retV vs)).bind fun r => some (r, vs_42.n))
  ((aUn .not v31_21).bind fun v45_44 =>
  cnd v45_44
  ((aStore 8 v4_1 zc_iissiiii v33_25.2).bind fun vs_48 =>
  ((aLoad true 8 vs_48 v4_1).bind fun vr_49 =>
  some (vr_49 :: [(.bool false)])).bind fun vs =>
  (resTup vs_48 (retV vs)).bind fun r => some (r, vs_48.n))
  ((aLoad true 8 v33_25.2 v6_6).bind fun v48_50 =>
  (aStore 8 v4_1 v48_50 v33_25.2).bind fun vs_51 =>
  ((aLoad true 8 vs_51 v4_1).bind fun vr_52 =>
  some (vr_52 :: [(.bool true)])).bind fun vs =>
  (resTup vs_51 (retV vs)).bind fun r => some (r, vs_51.n))))) := (lim_call F _ _ _).trans (by kernel_rfl)

noncomputable def f_spec_LoopError : IFn := (F i_spec_LoopError).getD default

theorem call_spec_LoopError (a0 : AV) (a1 : AV) (a2 : AV) (n : Nat) : L.call i_spec_LoopError [a0, a1, a2] n =
  mkNew zc_iii (st0 n) fun v6_1 vs_2 =>
  (clV L i_spec_LoopOf 0 [a0, a1] vs_2).bind fun v27_3 =>
  (aExtr 0 v27_3.1).bind fun v28_4 =>
  (aExtr 1 v27_3.1).bind fun v29_5 =>
  mkNew zc_iissiiii v27_3.2 fun v8_6 vs_7 =>
  (aStore 8 v8_6 v28_4 vs_7).bind fun vs_8 =>
  (clV L i_spec_LoopOf 0 [a0, a2] vs_8).bind fun v33_9 =>
  (aExtr 0 v33_9.1).bind fun v34_10 =>
  (aExtr 1 v33_9.1).bind fun v35_11 =>
  mkNew zc_iissiiii v33_9.2 fun v10_12 vs_13 =>
  (aStore 8 v10_12 v34_10 vs_13).bind fun vs_14 =>
  (aUn .not v29_5).bind fun v37_15 =>
  cnd v37_15
  ((aStore 3 v6_1 zc_iii vs_14).bind fun vs_19 =>
  ((aLoad true 3 vs_19 v6_1).bind fun vr_20 =>
  some (vr_20 :: [(.bool false)])).bind fun vs =>
  (resTup vs_19 (retV vs)).bind fun r => some (r, vs_19.n))
  ((aUn .not v35_11).bind fun v40_21 =>
  cnd v40_21
  ((aStore 3 v6_1 zc_iii vs_14).bind fun vs_25 =>
  ((aLoad true 3 vs_25 v6_1).bind fun vr_26 =>
  some (vr_26 :: [(.bool false)])).bind fun vs =>
  (resTup vs_25 (retV vs)).bind fun r => some (r, vs_25.n))
  ((aFaddr 2 v8_6).bind fun v45_27 =>
  (aLoad false 1 vs_14 v45_27).bind fun v46_28 =>
  (clV L i_spec_KnownPose 0 [a0, v46_28] vs_14).bind fun v47_29 =>
  (aExtr 0 v47_29.1).bind fun v48_30 =>
  (aExtr 1 v47_29.1).bind fun v49_31 =>
  mkNew zc_iii v47_29.2 fun v12_32 vs_33 =>
  (aStore 3 v12_32 v48_30 vs_33).bind fun vs_34 =>
  (aFaddr 3 v8_6).bind fun v52_35 =>
  (aLoad false 1 vs_34 v52_35).bind fun v53_36 =>
  (clV L i_spec_KnownPose 0 [a0, v53_36] vs_34).bind fun v54_37 =>
  (aExtr 0 v54_37.1).bind fun v55_38 =>
  (aExtr 1 v54_37.1).bind fun v56_39 =>
  mkNew zc_iii v54_37.2 fun v14_40 vs_41 =>
  (aStore 3 v14_40 v55_38 vs_41).bind fun vs_42 =>
  (aFaddr 2 v10_12).bind fun v59_43 =>
  (aLoad false 1 vs_42 v59_43).bind fun v60_44 =>
  (clV L i_spec_KnownPose 0 [a0, v60_44] vs_42).bind fun v61_45 =>
  (aExtr 0 v61_45.1).bind fun v62_46 =>
  (aExtr 1 v61_45.1).bind fun v63_47 =>
  mkNew zc_iii v61_45.2 fun v16_48 vs_49 =>
  (aStore 3 v16_48 v62_46 vs_49).bind fun vs_50 =>
  (aFaddr 3 v10_12).bind fun v66_51 =>
  (aLoad false 1 vs_50 v66_51).bind fun v67_52 =>
  (clV L i_spec_KnownPose 0 [a0, v67_52] vs_50).bind fun v68_53 =>
  (aExtr 0 v68_53.1).bind fun v69_54 =>
  (aExtr 1 v68_53.1).bind fun v70_55 =>
  mkNew zc_iii v68_53.2 fun v18_56 vs_57 =>
  (aStore 3 v18_56 v69_54 vs_57).bind fun vs_58 =>
  (aLoad true 3 vs_58 v14_40).bind fun v72_59 =>
  (clV L i_spec_Inverse 0 [v72_59] vs_58).bind fun v73_60 =>
  (aLoad true 3 v73_60.2 v18_56).bind fun v74_61 =>
  (clV L i_spec_l05Compose 0 [v73_60.1, v74_61] v73_60.2).bind fun v75_62 =>
  (aExtr 0 v75_62.1).bind fun v76_63 =>
  (aExtr 1 v75_62.1).bind fun v77_64 =>
  mkNew zc_iii v75_62.2 fun v20_65 vs_66 =>
  (aStore 3 v20_65 v76_63 vs_66).bind fun vs_67 =>
  (aLoad true 3 vs_67 v16_48).bind fun v79_68 =>
  (clV L i_spec_Inverse 0 [v79_68] vs_67).bind fun v80_69 =>
  (aLoad true 3 v80_69.2 v12_32).bind fun v81_70 =>
  (clV L i_spec_l05Compose 0 [v80_69.1, v81_70] v80_69.2).bind fun v82_71 =>
  (aExtr 0 v82_71.1).bind fun v83_72 =>
  (aExtr 1 v82_71.1).bind fun v84_73 =>
  mkNew zc_iii v82_71.2 fun v22_74 vs_75 =>
  (aStore 3 v22_74 v83_72 vs_75).bind fun vs_76 =>
  (aUn .not v77_64).bind fun v86_77 =>
  cnd v86_77
  ((aStore 3 v6_1 zc_iii vs_76).bind fun vs_81 =>
  ((aLoad true 3 vs_81 v6_1).bind fun vr_82 =>
  some (vr_82 :: [(.bool false)])).bind fun vs =>
  (resTup vs_81 (retV vs)).bind fun r => some (r, vs_81.n))
  ((aUn .not v84_73).bind fun v89_83 =>
  cnd v89_83
  ((aStore 3 v6_1 zc_iii vs_76).bind fun vs_87 =>
  ((aLoad true 3 vs_87 v6_1).bind fun vr_88 =>
  some (vr_88 :: [(.bool false)])).bind fun vs =>
  (resTup vs_87 (retV vs)).bind fun r => some (r, vs_87.n))
  ((aFaddr 4 v8_6).bind fun v92_89 =>
  (aLoad true 3 vs_76 v92_89).bind fun v93_90 =>
  (aLoad true 3 vs_76 v20_65).bind fun v94_91 =>
  (aFaddr 4 v10_12).bind fun v95_92 =>
  (aLoad true 3 vs_76 v95_92).bind fun v96_93 =>
  (clV L i_spec_Inverse 0 [v96_93] vs_76).bind fun v97_94 =>
  (aLoad true 3 v97_94.2 v22_74).bind fun v98_95 =>
  mkLit 4 3 zc_iii [(0, v93_90), (1, v94_91), (2, v97_94.1), (3, v98_95)] v97_94.2 fun v99_96 vs_97 =>
  (clV L i_spec_l21Chain 0 [v99_96] vs_97).bind fun v100_98 =>
  (aExtr 0 v100_98.1).bind fun v101_99 =>
  (aExtr 1 v100_98.1).bind fun v102_100 =>
  (aStore 3 v6_1 v101_99 v100_98.2).bind fun vs_101 =>
  ((aLoad true 3 vs_101 v6_1).bind fun vr_102 =>
  some (vr_102 :: [v102_100])).bind fun vs =>
  (resTup vs_101 (retV vs)).bind fun r => some (r, vs_101.n))))) := (lim_call F _ _ _).trans (by kernel_rfl)

noncomputable def f_spec_l17Size : IFn := (F i_spec_l17Size).getD default

theorem call_spec_l17Size (a0 : AV) (n : Nat) : L.call i_spec_l17Size [a0] n =
  (aBin .lss a0 (.int .i64 0)).bind fun v4_1 =>
  cnd v4_1
  ((aUn .neg a0).bind fun v6_2 =>
  (resTup (st0 n) v6_2).bind fun r => some (r, (st0 n).n))
  ((resTup (st0 n) a0).bind fun r => some (r, (st0 n).n)) := (lim_call F _ _ _).trans (by kernel_rfl)

noncomputable def f_laws_toPose : IFn := (F i_laws_toPose).getD default

theorem call_laws_toPose (a0 : AV) (n : Nat) : L.call i_laws_toPose [a0] n =
  mkNew a0 (st0 n) fun v1_1 vs_2 =>
  mkNew zc_iii vs_2 fun v2_3 vs_4 =>
  mkNew zc_iii vs_4 fun v3_5 vs_6 =>
  (aFaddr 0 v1_1).bind fun v4_7 =>
  (aLoad false 1 vs_6 v4_7).bind fun v5_8 =>
  (aFaddr 0 v3_5).bind fun v6_9 =>
  (aStore 1 v6_9 v5_8 vs_6).bind fun vs_10 =>
  (aFaddr 1 v1_1).bind fun v7_11 =>
  (aLoad false 1 vs_10 v7_11).bind fun v8_12 =>
  (aFaddr 1 v3_5).bind fun v9_13 =>
  (aStore 1 v9_13 v8_12 vs_10).bind fun vs_14 =>
  (aFaddr 2 v1_1).bind fun v10_15 =>
  (aLoad false 1 vs_14 v10_15).bind fun v11_16 =>
  (aFaddr 2 v3_5).bind fun v12_17 =>
  (aStore 1 v12_17 v11_16 vs_14).bind fun vs_18 =>
  (aLoad true 3 vs_18 v3_5).bind fun v13_19 =>
  (aStore 3 v2_3 v13_19 vs_18).bind fun vs_20 =>
  ((aLoad true 3 vs_20 v2_3).bind fun vr_21 =>
  some (vr_21 :: [])).bind fun vs =>
  (resTup vs_20 (retV vs)).bind fun r => some (r, vs_20.n) := (lim_call F _ _ _).trans (by kernel_rfl)

noncomputable def f_impl_LoopError : IFn := (F i_impl_LoopError).getD default

theorem call_impl_LoopError (a0 : AV) (a1 : AV) (a2 : AV) (n : Nat) : L.call i_impl_LoopError [a0, a1, a2] n =
  mkNew zc_iii (st0 n) fun v6_1 vs_2 =>
  (clV L i_impl_LoopOf 0 [a0, a1] vs_2).bind fun v27_3 =>
  (aExtr 0 v27_3.1).bind fun v28_4 =>
  (aExtr 1 v27_3.1).bind fun v29_5 =>
  mkNew zc_iissiiii v27_3.2 fun v8_6 vs_7 =>
  (aStore 8 v8_6 v28_4 vs_7).bind fun vs_8 =>
  (clV L i_impl_LoopOf 0 [a0, a2] vs_8).bind fun v33_9 =>
  (aExtr 0 v33_9.1).bind fun v34_10 =>
  (aExtr 1 v33_9.1).bind fun v35_11 =>
  mkNew zc_iissiiii v33_9.2 fun v10_12 vs_13 =>
  (aStore 8 v10_12 v34_10 vs_13).bind fun vs_14 =>
  (aUn .not v29_5).bind fun v37_15 =>
  cnd v37_15
  ((aStore 3 v6_1 zc_iii vs_14).bind fun vs_19 =>
  ((aLoad true 3 vs_19 v6_1).bind fun vr_20 =>
  some (vr_20 :: [(.bool false)])).bind fun vs =>
  (resTup vs_19 (retV vs)).bind fun r => some (r, vs_19.n))
  ((aUn .not v35_11).bind fun v40_21 =>
  cnd v40_21
  ((aStore 3 v6_1 zc_iii vs_14).bind fun vs_25 =>
  ((aLoad true 3 vs_25 v6_1).bind fun vr_26 =>
  some (vr_26 :: [(.bool false)])).bind fun vs =>
  (resTup vs_25 (retV vs)).bind fun r => some (r, vs_25.n))
  ((aFaddr 2 v8_6).bind fun v45_27 =>
  (aLoad false 1 vs_14 v45_27).bind fun v46_28 =>
  (clV L i_impl_KnownPose 0 [a0, v46_28] vs_14).bind fun v47_29 =>
  (aExtr 0 v47_29.1).bind fun v48_30 =>
  (aExtr 1 v47_29.1).bind fun v49_31 =>
  mkNew zc_iii v47_29.2 fun v12_32 vs_33 =>
  (aStore 3 v12_32 v48_30 vs_33).bind fun vs_34 =>
  (aFaddr 3 v8_6).bind fun v52_35 =>
  (aLoad false 1 vs_34 v52_35).bind fun v53_36 =>
  (clV L i_impl_KnownPose 0 [a0, v53_36] vs_34).bind fun v54_37 =>
  (aExtr 0 v54_37.1).bind fun v55_38 =>
  (aExtr 1 v54_37.1).bind fun v56_39 =>
  mkNew zc_iii v54_37.2 fun v14_40 vs_41 =>
  (aStore 3 v14_40 v55_38 vs_41).bind fun vs_42 =>
  (aFaddr 2 v10_12).bind fun v59_43 =>
  (aLoad false 1 vs_42 v59_43).bind fun v60_44 =>
  (clV L i_impl_KnownPose 0 [a0, v60_44] vs_42).bind fun v61_45 =>
  (aExtr 0 v61_45.1).bind fun v62_46 =>
  (aExtr 1 v61_45.1).bind fun v63_47 =>
  mkNew zc_iii v61_45.2 fun v16_48 vs_49 =>
  (aStore 3 v16_48 v62_46 vs_49).bind fun vs_50 =>
  (aFaddr 3 v10_12).bind fun v66_51 =>
  (aLoad false 1 vs_50 v66_51).bind fun v67_52 =>
  (clV L i_impl_KnownPose 0 [a0, v67_52] vs_50).bind fun v68_53 =>
  (aExtr 0 v68_53.1).bind fun v69_54 =>
  (aExtr 1 v68_53.1).bind fun v70_55 =>
  mkNew zc_iii v68_53.2 fun v18_56 vs_57 =>
  (aStore 3 v18_56 v69_54 vs_57).bind fun vs_58 =>
  (aLoad true 3 vs_58 v14_40).bind fun v72_59 =>
  (clV L i_impl_Inverse 0 [v72_59] vs_58).bind fun v73_60 =>
  (aLoad true 3 v73_60.2 v18_56).bind fun v74_61 =>
  (clV L i_impl_composeOk 0 [v73_60.1, v74_61] v73_60.2).bind fun v75_62 =>
  (aExtr 0 v75_62.1).bind fun v76_63 =>
  (aExtr 1 v75_62.1).bind fun v77_64 =>
  mkNew zc_iii v75_62.2 fun v20_65 vs_66 =>
  (aStore 3 v20_65 v76_63 vs_66).bind fun vs_67 =>
  (aLoad true 3 vs_67 v16_48).bind fun v79_68 =>
  (clV L i_impl_Inverse 0 [v79_68] vs_67).bind fun v80_69 =>
  (aLoad true 3 v80_69.2 v12_32).bind fun v81_70 =>
  (clV L i_impl_composeOk 0 [v80_69.1, v81_70] v80_69.2).bind fun v82_71 =>
  (aExtr 0 v82_71.1).bind fun v83_72 =>
  (aExtr 1 v82_71.1).bind fun v84_73 =>
  mkNew zc_iii v82_71.2 fun v22_74 vs_75 =>
  (aStore 3 v22_74 v83_72 vs_75).bind fun vs_76 =>
  (aUn .not v77_64).bind fun v86_77 =>
  cnd v86_77
  ((aStore 3 v6_1 zc_iii vs_76).bind fun vs_81 =>
  ((aLoad true 3 vs_81 v6_1).bind fun vr_82 =>
  some (vr_82 :: [(.bool false)])).bind fun vs =>
  (resTup vs_81 (retV vs)).bind fun r => some (r, vs_81.n))
  ((aUn .not v84_73).bind fun v89_83 =>
  cnd v89_83
  ((aStore 3 v6_1 zc_iii vs_76).bind fun vs_87 =>
  ((aLoad true 3 vs_87 v6_1).bind fun vr_88 =>
  some (vr_88 :: [(.bool false)])).bind fun vs =>
  (resTup vs_87 (retV vs)).bind fun r => some (r, vs_87.n))
  ((aFaddr 4 v8_6).bind fun v92_89 =>
  (aLoad true 3 vs_76 v92_89).bind fun v93_90 =>
  (aLoad true 3 vs_76 v20_65).bind fun v94_91 =>
  (aFaddr 4 v10_12).bind fun v95_92 =>
  (aLoad true 3 vs_76 v95_92).bind fun v96_93 =>
  (clV L i_impl_Inverse 0 [v96_93] vs_76).bind fun v97_94 =>
  (aLoad true 3 v97_94.2 v22_74).bind fun v98_95 =>
  mkLit 4 3 zc_iii [(0, v93_90), (1, v94_91), (2, v97_94.1), (3, v98_95)] v97_94.2 fun v99_96 vs_97 =>
  (clV L i_impl_composeAllOk 0 [v99_96] vs_97).bind fun v100_98 =>
  (aExtr 0 v100_98.1).bind fun v101_99 =>
  (aExtr 1 v100_98.1).bind fun v102_100 =>
  (aStore 3 v6_1 v101_99 v100_98.2).bind fun vs_101 =>
  ((aLoad true 3 vs_101 v6_1).bind fun vr_102 =>
  some (vr_102 :: [v102_100])).bind fun vs =>
  (resTup vs_101 (retV vs)).bind fun r => some (r, vs_101.n))))) := (lim_call F _ _ _).trans (by kernel_rfl)

noncomputable def f_impl_absOf : IFn := (F i_impl_absOf).getD default

theorem call_impl_absOf (a0 : AV) (n : Nat) : L.call i_impl_absOf [a0] n =
  (aBin .lss a0 (.int .i64 0)).bind fun v4_1 =>
  cnd v4_1
  ((aUn .neg a0).bind fun v6_2 =>
  (resTup (st0 n) v6_2).bind fun r => some (r, (st0 n).n))
  ((resTup (st0 n) a0).bind fun r => some (r, (st0 n).n)) := (lim_call F _ _ _).trans (by kernel_rfl)

noncomputable def f_laws_eqPose : IFn := (F i_laws_eqPose).getD default

theorem call_laws_eqPose (a0 : AV) (a1 : AV) (n : Nat) : L.call i_laws_eqPose [a0, a1] n =
  mkNew a0 (st0 n) fun v2_1 vs_2 =>
  mkNew a1 vs_2 fun v3_3 vs_4 =>
  (aFaddr 0 v2_1).bind fun v5_5 =>
  (aLoad false 1 vs_4 v5_5).bind fun v6_6 =>
  (aFaddr 0 v3_3).bind fun v7_7 =>
  (aLoad false 1 vs_4 v7_7).bind fun v8_8 =>
  (aBin .neq v6_6 v8_8).bind fun v9_9 =>
  cnd v9_9
  ((resTup vs_4 (.bool false)).bind fun r => some (r, vs_4.n))
  ((aFaddr 1 v2_1).bind fun v10_10 =>
  (aLoad false 1 vs_4 v10_10).bind fun v11_11 =>
  (aFaddr 1 v3_3).bind fun v12_12 =>
  (aLoad false 1 vs_4 v12_12).bind fun v13_13 =>
  (aBin .neq v11_11 v13_13).bind fun v14_14 =>
  cnd v14_14
  ((resTup vs_4 (.bool false)).bind fun r => some (r, vs_4.n))
  ((aFaddr 2 v2_1).bind fun v15_15 =>
  (aLoad false 1 vs_4 v15_15).bind fun v16_16 =>
  (aFaddr 2 v3_3).bind fun v17_17 =>
  (aLoad false 1 vs_4 v17_17).bind fun v18_18 =>
  (aBin .neq v16_16 v18_18).bind fun v19_19 =>
  cnd v19_19
  ((resTup vs_4 (.bool false)).bind fun r => some (r, vs_4.n))
  ((resTup vs_4 (.bool true)).bind fun r => some (r, vs_4.n)))) := (lim_call F _ _ _).trans (by kernel_rfl)

noncomputable def f_spec_IsValidFactor : IFn := (F i_spec_IsValidFactor).getD default

theorem call_spec_IsValidFactor (a0 : AV) (n : Nat) : L.call i_spec_IsValidFactor [a0] n =
  mkNew a0 (st0 n) fun v1_1 vs_2 =>
  (aFaddr 0 v1_1).bind fun v3_3 =>
  (aLoad false 1 vs_2 v3_3).bind fun v4_4 =>
  (clV L i_spec_l01In 0 [v4_4, (.int .i64 0), (.int .i64 99999)] vs_2).bind fun v5_5 =>
  (aUn .not v5_5.1).bind fun v6_6 =>
  cnd v6_6
  ((resTup v5_5.2 (.bool false)).bind fun r => some (r, v5_5.2.n))
  ((aFaddr 4 v1_1).bind fun v8_7 =>
  (aLoad true 3 v5_5.2 v8_7).bind fun v9_8 =>
  (clV L i_spec_IsValidPose 0 [v9_8] v5_5.2).bind fun v10_9 =>
  (aUn .not v10_9.1).bind fun v11_10 =>
  cnd v11_10
  ((resTup v10_9.2 (.bool false)).bind fun r => some (r, v10_9.2.n))
  ((aFaddr 7 v1_1).bind fun v14_11 =>
  (aLoad false 1 v10_9.2 v14_11).bind fun v15_12 =>
  (clV L i_spec_l01In 0 [v15_12, (.int .i64 1), (.int .i64 9999)] v10_9.2).bind fun v16_13 =>
  (aUn .not v16_13.1).bind fun v17_14 =>
  cnd v17_14
  ((resTup v16_13.2 (.bool false)).bind fun r => some (r, v16_13.2.n))
  ((aFaddr 1 v1_1).bind fun v19_15 =>
  (aLoad false 1 v16_13.2 v19_15).bind fun v20_16 =>
  (aBin .eql v20_16 (.int .i64 1)).bind fun v22_17 =>
  cnd v22_17
  ((aFaddr 2 v1_1).bind fun v23_18 =>
  (aLoad false 1 v16_13.2 v23_18).bind fun v24_19 =>
  (aBin .eql v24_19 (.str ⟨#[]⟩)).bind fun v25_20 =>
  cnd v25_20
  ((aFaddr 3 v1_1).bind fun v27_21 =>
  (aLoad false 1 v16_13.2 v27_21).bind fun v28_22 =>
  (clV L i_spec_IsPoseName 0 [v28_22] v16_13.2).bind fun v29_23 =>
  (resTup v29_23.2 v29_23.1).bind fun r => some (r, v29_23.2.n))
  ((resTup v16_13.2 (.bool false)).bind fun r => some (r, v16_13.2.n)))
  ((aBin .eql v20_16 (.int .i64 2)).bind fun v32_24 =>
  cnd v32_24
  ((aFaddr 2 v1_1).bind fun v34_25 =>
  (aLoad false 1 v16_13.2 v34_25).bind fun v35_26 =>
  (clV L i_spec_IsPoseName 0 [v35_26] v16_13.2).bind fun v36_27 =>
  cnd v36_27.1
  ((aFaddr 3 v1_1).bind fun v38_28 =>
  (aLoad false 1 v36_27.2 v38_28).bind fun v39_29 =>
  (clV L i_spec_IsPoseName 0 [v39_29] v36_27.2).bind fun v40_30 =>
  cnd v40_30.1
  ((aFaddr 2 v1_1).bind fun v43_31 =>
  (aLoad false 1 v40_30.2 v43_31).bind fun v44_32 =>
  (aFaddr 3 v1_1).bind fun v45_33 =>
  (aLoad false 1 v40_30.2 v45_33).bind fun v46_34 =>
  (aBin .neq v44_32 v46_34).bind fun v47_35 =>
  (resTup v40_30.2 v47_35).bind fun r => some (r, v40_30.2.n))
  ((resTup v40_30.2 (.bool false)).bind fun r => some (r, v40_30.2.n)))
  ((resTup v36_27.2 (.bool false)).bind fun r => some (r, v36_27.2.n)))
  ((aBin .eql v20_16 (.int .i64 4)).bind fun v33_36 =>
  cnd v33_36
  ((aFaddr 2 v1_1).bind fun v34_37 =>
  (aLoad false 1 v16_13.2 v34_37).bind fun v35_38 =>
  (clV L i_spec_IsPoseName 0 [v35_38] v16_13.2).bind fun v36_39 =>
  cnd v36_39.1
  ((aFaddr 3 v1_1).bind fun v38_40 =>
  (aLoad false 1 v36_39.2 v38_40).bind fun v39_41 =>
  (clV L i_spec_IsPoseName 0 [v39_41] v36_39.2).bind fun v40_42 =>
  cnd v40_42.1
  ((aFaddr 2 v1_1).bind fun v43_43 =>
  (aLoad false 1 v40_42.2 v43_43).bind fun v44_44 =>
  (aFaddr 3 v1_1).bind fun v45_45 =>
  (aLoad false 1 v40_42.2 v45_45).bind fun v46_46 =>
  (aBin .neq v44_44 v46_46).bind fun v47_47 =>
  (resTup v40_42.2 v47_47).bind fun r => some (r, v40_42.2.n))
  ((resTup v40_42.2 (.bool false)).bind fun r => some (r, v40_42.2.n)))
  ((resTup v36_39.2 (.bool false)).bind fun r => some (r, v36_39.2.n)))
  ((aBin .eql v20_16 (.int .i64 3)).bind fun v50_48 =>
  cnd v50_48
  ((aFaddr 2 v1_1).bind fun v51_49 =>
  (aLoad false 1 v16_13.2 v51_49).bind fun v52_50 =>
  (clV L i_spec_IsPoseName 0 [v52_50] v16_13.2).bind fun v53_51 =>
  cnd v53_51.1
  ((aFaddr 3 v1_1).bind fun v55_52 =>
  (aLoad false 1 v53_51.2 v55_52).bind fun v56_53 =>
  (clV L i_spec_IsLandmarkName 0 [v56_53] v53_51.2).bind fun v57_54 =>
  cnd v57_54.1
  ((aFaddr 4 v1_1).bind fun v60_55 =>
  (aFaddr 0 v60_55).bind fun v61_56 =>
  (aLoad false 1 v57_54.2 v61_56).bind fun v62_57 =>
  (aBin .eql v62_57 (.int .i64 0)).bind fun v63_58 =>
  (resTup v57_54.2 v63_58).bind fun r => some (r, v57_54.2.n))
  ((resTup v57_54.2 (.bool false)).bind fun r => some (r, v57_54.2.n)))
  ((resTup v53_51.2 (.bool false)).bind fun r => some (r, v53_51.2.n)))
  ((resTup v16_13.2 (.bool false)).bind fun r => some (r, v16_13.2.n)))))))) := (lim_call F _ _ _).trans (by kernel_rfl)

noncomputable def f_spec_NamesOf : IFn := (F i_spec_NamesOf).getD default

noncomputable def b_spec_NamesOf_1 : ICode := loopAt f_spec_NamesOf.code 0

noncomputable def b_spec_NamesOf_2 : ICode := loopAt f_spec_NamesOf.code 1

noncomputable def k_spec_NamesOf_1 : XT × List AV × St → Option (AV × Nat) := resK L f_spec_NamesOf.code [true, true, false, true] (callK f_spec_NamesOf.rs)

noncomputable def k_spec_NamesOf_2 : XT × List AV × St → Option (XT × List AV × St) := resK L b_spec_NamesOf_1 [true, true, false, true, true] (loopK L [3, 9, 10, 11] [2, 3] b_spec_NamesOf_1)

theorem call_spec_NamesOf (a0 : AV) (n : Nat) : L.call i_spec_NamesOf [a0] n =
  mkLit 0 1 (.str ⟨#[]⟩) [] (st0 n) fun v8_1 vs_2 =>
  (aLen a0).bind fun v10_3 =>
  (L.loop [3, 9, 10, 11] [2, 3] b_spec_NamesOf_1 [v8_1, a0, v10_3, (.int .i64 0)] vs_2).bind k_spec_NamesOf_1 := (lim_call F _ _ _).trans (by kernel_rfl)

theorem loop_spec_NamesOf_1 (x3 : AV) (x9 : AV) (x10 : AV) (x11 : AV) (st : St) : L.loop [3, 9, 10, 11] [2, 3] b_spec_NamesOf_1 [x3, x9, x10, x11] st =
  (aBin .lss x11 x10).bind fun v12_1 =>
  cnd v12_1
  ((aIaddr 8 x9 x11).bind fun v13_2 =>
  (aLoad true 8 st v13_2).bind fun v14_3 =>
  mkNew zc_iissiiii st fun v5_4 vs_5 =>
  (aStore 8 v5_4 v14_3 vs_5).bind fun vs_6 =>
  (aFaddr 2 v5_4).bind fun v15_7 =>
  (aLoad false 1 vs_6 v15_7).bind fun v16_8 =>
  (aFaddr 3 v5_4).bind fun v17_9 =>
  (aLoad false 1 vs_6 v17_9).bind fun v18_10 =>
  mkLit 2 1 (.str ⟨#[]⟩) [(0, v16_8), (1, v18_10)] vs_6 fun v19_11 vs_12 =>
  (aLen v19_11).bind fun v20_13 =>
  (L.loop [3, 9, 10, 11, 19, 20, 21] [2, 3, 9, 10, 11] b_spec_NamesOf_2 [x3, x9, x10, x11, v19_11, v20_13, (.int .i64 0)] vs_12).bind k_spec_NamesOf_2)
  (some ((.exit 0), [.undef, x3], st)) := (lim_loop F _ _ _ _ _).trans (by kernel_rfl)

theorem loop_spec_NamesOf_2 (x3 : AV) (x9 : AV) (x10 : AV) (x11 : AV) (x19 : AV) (x20 : AV) (x21 : AV) (st : St) : L.loop [3, 9, 10, 11, 19, 20, 21] [2, 3, 9, 10, 11] b_spec_NamesOf_2 [x3, x9, x10, x11, x19, x20, x21] st =
  (aBin .lss x21 x20).bind fun v22_1 =>
  cnd v22_1
  ((aIaddr 1 x19 x21).bind fun v23_2 =>
  (aLoad false 1 st v23_2).bind fun v24_3 =>
  (aBin .neq v24_3 (.str ⟨#[]⟩)).bind fun v26_4 =>
  cnd v26_4
  ((clV L i_spec_l16Has 0 [x3, v24_3] st).bind fun v30_5 =>
  (aUn .not v30_5.1).bind fun v31_6 =>
  cnd v31_6
  (mkLit 1 1 (.str ⟨#[]⟩) [(0, v24_3)] v30_5.2 fun v35_7 vs_8 =>
  (aApp 1 x3 v35_7 vs_8).bind fun v36_9 =>
  (aBin .add x21 (.int .i64 1)).bind fun v37_10 =>
  L.loop [3, 9, 10, 11, 19, 20, 21] [2, 3, 9, 10, 11] b_spec_NamesOf_2 [v36_9.1, x9, x10, x11, x19, x20, v37_10] v36_9.2)
  ((aBin .add x21 (.int .i64 1)).bind fun v37_11 =>
  L.loop [3, 9, 10, 11, 19, 20, 21] [2, 3, 9, 10, 11] b_spec_NamesOf_2 [x3, x9, x10, x11, x19, x20, v37_11] v30_5.2))
  ((aBin .add x21 (.int .i64 1)).bind fun v37_12 =>
  L.loop [3, 9, 10, 11, 19, 20, 21] [2, 3, 9, 10, 11] b_spec_NamesOf_2 [x3, x9, x10, x11, x19, x20, v37_12] st))
  (some ((.exit 2), [.undef, x3, x9, x10, x11], st)) := (lim_loop F _ _ _ _ _).trans (by kernel_rfl)

theorem k_spec_NamesOf_1_0 (o2 : AV) (o3 : AV) (st : St) : k_spec_NamesOf_1 ((.exit 0), [o2, o3], st) =
  (resTup st o3).bind fun r => some (r, st.n) := by kernel_rfl

theorem k_spec_NamesOf_2_2 (o2 : AV) (o3 : AV) (o9 : AV) (o10 : AV) (o11 : AV) (st : St) : k_spec_NamesOf_2 ((.exit 2), [o2, o3, o9, o10, o11], st) =
  (aBin .add o11 (.int .i64 1)).bind fun v38_1 =>
  L.loop [3, 9, 10, 11] [2, 3] b_spec_NamesOf_1 [o3, o9, o10, v38_1] st := by kernel_rfl

noncomputable def f_spec_DeadReckoning : IFn := (F i_spec_DeadReckoning).getD default

noncomputable def b_spec_DeadReckoning_1 : ICode := loopAt f_spec_DeadReckoning.code 0

noncomputable def k_spec_DeadReckoning_1 : XT × List AV × St → Option (AV × Nat) := resK L f_spec_DeadReckoning.code [true, true, true, true, true] (callK f_spec_DeadReckoning.rs)

theorem call_spec_DeadReckoning (a0 : AV) (n : Nat) : L.call i_spec_DeadReckoning [a0] n =
  (clV L i_spec_IsFactorList 0 [a0] (st0 n)).bind fun v10_1 =>
  (aUn .not v10_1.1).bind fun v11_2 =>
  cnd v11_2
  ((resTup v10_1.2 (.tup [.nils, .nils])).bind fun r => some (r, v10_1.2.n))
  ((clV L i_spec_NamesOf 0 [a0] v10_1.2).bind fun v13_3 =>
  (aLen v13_3.1).bind fun v15_4 =>
  mkMake 3 zc_iii v15_4 v15_4 v13_3.2 fun v16_5 vs_6 =>
  (aLen v13_3.1).bind fun v18_7 =>
  mkMake 1 (.bool false) v18_7 v18_7 vs_6 fun v19_8 vs_9 =>
  (L.loop [0, 4, 5, 6] [2, 3] b_spec_DeadReckoning_1 [a0, v13_3.1, v16_5, v19_8] vs_9).bind k_spec_DeadReckoning_1) := (lim_call F _ _ _).trans (by kernel_rfl)

theorem loop_spec_DeadReckoning_1 (x0 : AV) (x4 : AV) (x5 : AV) (x6 : AV) (st : St) : L.loop [0, 4, 5, 6] [2, 3] b_spec_DeadReckoning_1 [x0, x4, x5, x6] st =
  (clV L i_spec_l17Reckon 0 [x0, x4, x5, x6] st).bind fun v25_1 =>
  (aExtr 0 v25_1.1).bind fun v26_2 =>
  (aExtr 1 v25_1.1).bind fun v27_3 =>
  mkNew zc_iii v25_1.2 fun v8_4 vs_5 =>
  (aStore 3 v8_4 v27_3 vs_5).bind fun vs_6 =>
  (aBin .lss v26_2 (.int .i64 0)).bind fun v29_7 =>
  cnd v29_7
  (some (.ret, [x5, x6], vs_6))
  ((aLoad true 3 vs_6 v8_4).bind fun v34_8 =>
  (aIaddr 3 x5 v26_2).bind fun v35_9 =>
  (aStore 3 v35_9 v34_8 vs_6).bind fun vs_10 =>
  (aIaddr 1 x6 v26_2).bind fun v38_11 =>
  (aStore 1 v38_11 (.bool true) vs_10).bind fun vs_12 =>
  L.loop [0, 4, 5, 6] [2, 3] b_spec_DeadReckoning_1 [x0, x4, x5, x6] vs_12) := (lim_loop F _ _ _ _ _).trans (by kernel_rfl)

theorem k_spec_DeadReckoning_1_ret (o2 : AV) (o3 : AV) (st : St) : k_spec_DeadReckoning_1 (.ret, [o2, o3], st) =
  (resTup st (.tup [o2, o3])).bind fun r => some (r, st.n) := by kernel_rfl

noncomputable def f_spec_IsPoseName : IFn := (F i_spec_IsPoseName).getD default

theorem call_spec_IsPoseName (a0 : AV) (n : Nat) : L.call i_spec_IsPoseName [a0] n =
  (clV L i_spec_IsName 0 [a0] (st0 n)).bind fun v4_1 =>
  cnd v4_1.1
  ((aSidx a0 (.int .i64 0)).bind fun v7_2 =>
  (aBin .eql v7_2 (.int .u8 112)).bind fun v8_3 =>
  (resTup v4_1.2 v8_3).bind fun r => some (r, v4_1.2.n))
  ((resTup v4_1.2 (.bool false)).bind fun r => some (r, v4_1.2.n)) := (lim_call F _ _ _).trans (by kernel_rfl)

noncomputable def f_impl_nameIndex : IFn := (F i_impl_nameIndex).getD default

noncomputable def b_impl_nameIndex_1 : ICode := loopAt f_impl_nameIndex.code 0

noncomputable def k_impl_nameIndex_1 : XT × List AV × St → Option (AV × Nat) := resK L f_impl_nameIndex.code [true, false, true] (callK f_impl_nameIndex.rs)

theorem call_impl_nameIndex (a0 : AV) (a1 : AV) (n : Nat) : L.call i_impl_nameIndex [a0, a1] n =
  (aLen a0).bind fun v8_1 =>
  (L.loop [1, 7, 8, 9] [4] b_impl_nameIndex_1 [a1, a0, v8_1, (.int .i64 0)] (st0 n)).bind k_impl_nameIndex_1 := (lim_call F _ _ _).trans (by kernel_rfl)

theorem loop_impl_nameIndex_1 (x1 : AV) (x7 : AV) (x8 : AV) (x9 : AV) (st : St) : L.loop [1, 7, 8, 9] [4] b_impl_nameIndex_1 [x1, x7, x8, x9] st =
  (aBin .lss x9 x8).bind fun v10_1 =>
  cnd v10_1
  ((aIaddr 1 x7 x9).bind fun v12_2 =>
  (aLoad false 1 st v12_2).bind fun v13_3 =>
  (aBin .eql v13_3 x1).bind fun v16_4 =>
  cnd v16_4
  (some (.ret, [x9], st))
  ((aBin .add x9 (.int .i64 1)).bind fun v18_5 =>
  L.loop [1, 7, 8, 9] [4] b_impl_nameIndex_1 [x1, x7, x8, v18_5] st))
  (some ((.exit 0), [.undef], st)) := (lim_loop F _ _ _ _ _).trans (by kernel_rfl)

theorem k_impl_nameIndex_1_ret (o4 : AV) (st : St) : k_impl_nameIndex_1 (.ret, [o4], st) =
  (resTup st o4).bind fun r => some (r, st.n) := by kernel_rfl

theorem k_impl_nameIndex_1_0 (o4 : AV) (st : St) : k_impl_nameIndex_1 ((.exit 0), [o4], st) =
  (resTup st (.int .i64 (-1))).bind fun r => some (r, st.n) := by kernel_rfl

noncomputable def f_impl_findFactor : IFn := (F i_impl_findFactor).getD default

noncomputable def b_impl_findFactor_1 : ICode := loopAt f_impl_findFactor.code 0

noncomputable def k_impl_findFactor_1 : XT × List AV × St → Option (AV × Nat) := resK L f_impl_findFactor.code [true, false, true] (callK f_impl_findFactor.rs)

theorem call_impl_findFactor (a0 : AV) (a1 : AV) (n : Nat) : L.call i_impl_findFactor [a0, a1] n =
  (aLen a0).bind fun v8_1 =>
  (L.loop [1, 7, 8, 9] [4] b_impl_findFactor_1 [a1, a0, v8_1, (.int .i64 0)] (st0 n)).bind k_impl_findFactor_1 := (lim_call F _ _ _).trans (by kernel_rfl)

theorem loop_impl_findFactor_1 (x1 : AV) (x7 : AV) (x8 : AV) (x9 : AV) (st : St) : L.loop [1, 7, 8, 9] [4] b_impl_findFactor_1 [x1, x7, x8, x9] st =
  (aBin .lss x9 x8).bind fun v10_1 =>
  cnd v10_1
  ((aIaddr 8 x7 x9).bind fun v12_2 =>
  (aLoad true 8 st v12_2).bind fun v13_3 =>
  mkNew zc_iissiiii st fun v6_4 vs_5 =>
  (aStore 8 v6_4 v13_3 vs_5).bind fun vs_6 =>
  (aFaddr 0 v6_4).bind fun v14_7 =>
  (aLoad false 1 vs_6 v14_7).bind fun v15_8 =>
  (aBin .eql v15_8 x1).bind fun v17_9 =>
  cnd v17_9
  (some (.ret, [x9], vs_6))
  ((aBin .add x9 (.int .i64 1)).bind fun v19_10 =>
  L.loop [1, 7, 8, 9] [4] b_impl_findFactor_1 [x1, x7, x8, v19_10] vs_6))
  (some ((.exit 0), [.undef], st)) := (lim_loop F _ _ _ _ _).trans (by kernel_rfl)

theorem k_impl_findFactor_1_ret (o4 : AV) (st : St) : k_impl_findFactor_1 (.ret, [o4], st) =
  (resTup st o4).bind fun r => some (r, st.n) := by kernel_rfl

theorem k_impl_findFactor_1_0 (o4 : AV) (st : St) : k_impl_findFactor_1 ((.exit 0), [o4], st) =
  (resTup st (.int .i64 (-1))).bind fun r => some (r, st.n) := by kernel_rfl

noncomputable def f_impl_KnownPose : IFn := (F i_impl_KnownPose).getD default

theorem call_impl_KnownPose (a0 : AV) (a1 : AV) (n : Nat) : L.call i_impl_KnownPose [a0, a1] n =
  mkNew zc_iii (st0 n) fun v4_1 vs_2 =>
  (clV L i_impl_DeadReckoning 0 [a0] vs_2).bind fun v11_3 =>
  (aExtr 0 v11_3.1).bind fun v12_4 =>
  (aExtr 1 v11_3.1).bind fun v13_5 =>
  (clV L i_impl_NamesOf 0 [a0] v11_3.2).bind fun v15_6 =>
  (clV L i_impl_nameIndex 0 [v15_6.1, a1] v15_6.2).bind fun v17_7 =>
  (aBin .lss v17_7.1 (.int .i64 0)).bind fun v19_8 =>
  cnd v19_8
  ((aStore 3 v4_1 zc_iii v17_7.2).bind fun vs_12 =>
  ((aLoad true 3 vs_12 v4_1).bind fun vr_13 =>
  some (vr_13 :: [(.bool false)])).bind fun vs =>
  (resTup vs_12 (retV vs)).bind fun r => some (r, vs_12.n))
  ((aLen v12_4).bind fun v23_14 =>
  (aBin .geq v17_7.1 v23_14).bind fun v24_15 =>
  cnd v24_15
  ((aStore 3 v4_1 zc_iii v17_7.2).bind fun vs_19 =>
  ((aLoad true 3 vs_19 v4_1).bind fun vr_20 =>
  some (vr_20 :: [(.bool false)])).bind fun vs =>
  (resTup vs_19 (retV vs)).bind fun r => some (r, vs_19.n))
  ((aIaddr 1 v13_5 v17_7.1).bind fun v29_21 =>
  (aLoad false 1 v17_7.2 v29_21).bind fun v30_22 =>
  (aUn .not v30_22).bind fun v31_23 =>
  cnd v31_23
  ((aStore 3 v4_1 zc_iii v17_7.2).bind fun vs_27 =>
  ((aLoad true 3 vs_27 v4_1).bind fun vr_28 =>
  some (vr_28 :: [(.bool false)])).bind fun vs =>
  (resTup vs_27 (retV vs)).bind fun r => some (r, vs_27.n))
  ((aIaddr 3 v12_4 v17_7.1).bind fun v36_29 =>
  (aLoad true 3 v17_7.2 v36_29).bind fun v37_30 =>
  (aStore 3 v4_1 v37_30 v17_7.2).bind fun vs_31 =>
  ((aLoad true 3 vs_31 v4_1).bind fun vr_32 =>
  some (vr_32 :: [(.bool true)])).bind fun vs =>
  (resTup vs_31 (retV vs)).bind fun r => some (r, vs_31.n)))) := (lim_call F _ _ _).trans (by kernel_rfl)

noncomputable def f_impl_IsValidPose : IFn := (F i_impl_IsValidPose).getD default

theorem call_impl_IsValidPose (a0 : AV) (n : Nat) : L.call i_impl_IsValidPose [a0] n =
  mkNew a0 (st0 n) fun v1_1 vs_2 =>
  (aFaddr 0 v1_1).bind fun v3_3 =>
  (aLoad false 1 vs_2 v3_3).bind fun v4_4 =>
  (aBin .geq v4_4 (.int .i64 0)).bind fun v5_5 =>
  cnd v5_5
  ((aFaddr 0 v1_1).bind fun v7_6 =>
  (aLoad false 1 vs_2 v7_6).bind fun v8_7 =>
  (aBin .leq v8_7 (.int .i64 3)).bind fun v9_8 =>
  cnd v9_8
  ((aFaddr 1 v1_1).bind fun v12_9 =>
  (aLoad false 1 vs_2 v12_9).bind fun v13_10 =>
  (clV L i_impl_inRange 0 [v13_10] vs_2).bind fun v14_11 =>
  cnd v14_11.1
  ((aFaddr 2 v1_1).bind fun v17_12 =>
  (aLoad false 1 v14_11.2 v17_12).bind fun v18_13 =>
  (clV L i_impl_inRange 0 [v18_13] v14_11.2).bind fun v19_14 =>
  (resTup v19_14.2 v19_14.1).bind fun r => some (r, v19_14.2.n))
  ((resTup v14_11.2 (.bool false)).bind fun r => some (r, v14_11.2.n)))
  ((resTup vs_2 (.bool false)).bind fun r => some (r, vs_2.n)))
  ((resTup vs_2 (.bool false)).bind fun r => some (r, vs_2.n)) := (lim_call F _ _ _).trans (by kernel_rfl)

noncomputable def f_impl_IsPoseName : IFn := (F i_impl_IsPoseName).getD default

theorem call_impl_IsPoseName (a0 : AV) (n : Nat) : L.call i_impl_IsPoseName [a0] n =
  (clV L i_impl_IsName 0 [a0] (st0 n)).bind fun v4_1 =>
  cnd v4_1.1
  ((aSidx a0 (.int .i64 0)).bind fun v7_2 =>
  (aBin .eql v7_2 (.int .u8 112)).bind fun v8_3 =>
  (resTup v4_1.2 v8_3).bind fun r => some (r, v4_1.2.n))
  ((resTup v4_1.2 (.bool false)).bind fun r => some (r, v4_1.2.n)) := (lim_call F _ _ _).trans (by kernel_rfl)

noncomputable def f_impl_IsLandmarkName : IFn := (F i_impl_IsLandmarkName).getD default

theorem call_impl_IsLandmarkName (a0 : AV) (n : Nat) : L.call i_impl_IsLandmarkName [a0] n =
  (clV L i_impl_IsName 0 [a0] (st0 n)).bind fun v4_1 =>
  cnd v4_1.1
  ((aSidx a0 (.int .i64 0)).bind fun v7_2 =>
  (aBin .eql v7_2 (.int .u8 109)).bind fun v8_3 =>
  (resTup v4_1.2 v8_3).bind fun r => some (r, v4_1.2.n))
  ((resTup v4_1.2 (.bool false)).bind fun r => some (r, v4_1.2.n)) := (lim_call F _ _ _).trans (by kernel_rfl)

noncomputable def f_impl_hasString : IFn := (F i_impl_hasString).getD default

noncomputable def b_impl_hasString_1 : ICode := loopAt f_impl_hasString.code 0

noncomputable def k_impl_hasString_1 : XT × List AV × St → Option (AV × Nat) := resK L f_impl_hasString.code [true, false, true] (callK f_impl_hasString.rs)

theorem call_impl_hasString (a0 : AV) (a1 : AV) (n : Nat) : L.call i_impl_hasString [a0, a1] n =
  (aLen a0).bind fun v8_1 =>
  (L.loop [1, 7, 8, 9] [4] b_impl_hasString_1 [a1, a0, v8_1, (.int .i64 0)] (st0 n)).bind k_impl_hasString_1 := (lim_call F _ _ _).trans (by kernel_rfl)

theorem loop_impl_hasString_1 (x1 : AV) (x7 : AV) (x8 : AV) (x9 : AV) (st : St) : L.loop [1, 7, 8, 9] [4] b_impl_hasString_1 [x1, x7, x8, x9] st =
  (aBin .lss x9 x8).bind fun v10_1 =>
  cnd v10_1
  ((aIaddr 1 x7 x9).bind fun v11_2 =>
  (aLoad false 1 st v11_2).bind fun v12_3 =>
  (aBin .eql v12_3 x1).bind fun v15_4 =>
  cnd v15_4
  (some (.ret, [(.bool true)], st))
  ((aBin .add x9 (.int .i64 1)).bind fun v16_5 =>
  L.loop [1, 7, 8, 9] [4] b_impl_hasString_1 [x1, x7, x8, v16_5] st))
  (some ((.exit 0), [.undef], st)) := (lim_loop F _ _ _ _ _).trans (by kernel_rfl)

theorem k_impl_hasString_1_ret (o4 : AV) (st : St) : k_impl_hasString_1 (.ret, [o4], st) =
  (resTup st o4).bind fun r => some (r, st.n) := by kernel_rfl

theorem k_impl_hasString_1_0 (o4 : AV) (st : St) : k_impl_hasString_1 ((.exit 0), [o4], st) =
  (resTup st (.bool false)).bind fun r => some (r, st.n) := by kernel_rfl

noncomputable def f_spec_KnownPose : IFn := (F i_spec_KnownPose).getD default

theorem call_spec_KnownPose (a0 : AV) (a1 : AV) (n : Nat) : L.call i_spec_KnownPose [a0, a1] n =
  mkNew zc_iii (st0 n) fun v4_1 vs_2 =>
  (clV L i_spec_DeadReckoning 0 [a0] vs_2).bind fun v11_3 =>
  (aExtr 0 v11_3.1).bind fun v12_4 =>
  (aExtr 1 v11_3.1).bind fun v13_5 =>
  (clV L i_spec_NamesOf 0 [a0] v11_3.2).bind fun v15_6 =>
  (clV L i_spec_l17Index 0 [v15_6.1, a1] v15_6.2).bind fun v17_7 =>
  (aBin .lss v17_7.1 (.int .i64 0)).bind fun v19_8 =>
  cnd v19_8
  ((aStore 3 v4_1 zc_iii v17_7.2).bind fun vs_12 =>
  ((aLoad true 3 vs_12 v4_1).bind fun vr_13 =>
  some (vr_13 :: [(.bool false)])).bind fun vs =>
  (resTup vs_12 (retV vs)).bind fun r => some (r, vs_12.n))
  ((aLen v12_4).bind fun v23_14 =>
  (aBin .geq v17_7.1 v23_14).bind fun v24_15 =>
  cnd v24_15
  ((aStore 3 v4_1 zc_iii v17_7.2).bind fun vs_19 =>
  ((aLoad true 3 vs_19 v4_1).bind fun vr_20 =>
  some (vr_20 :: [(.bool false)])).bind fun vs =>
  (resTup vs_19 (retV vs)).bind fun r => some (r, vs_19.n))
  ((aIaddr 1 v13_5 v17_7.1).bind fun v29_21 =>
  (aLoad false 1 v17_7.2 v29_21).bind fun v30_22 =>
  (aUn .not v30_22).bind fun v31_23 =>
  cnd v31_23
  ((aStore 3 v4_1 zc_iii v17_7.2).bind fun vs_27 =>
  ((aLoad true 3 vs_27 v4_1).bind fun vr_28 =>
  some (vr_28 :: [(.bool false)])).bind fun vs =>
  (resTup vs_27 (retV vs)).bind fun r => some (r, vs_27.n))
  ((aIaddr 3 v12_4 v17_7.1).bind fun v36_29 =>
  (aLoad true 3 v17_7.2 v36_29).bind fun v37_30 =>
  (aStore 3 v4_1 v37_30 v17_7.2).bind fun vs_31 =>
  ((aLoad true 3 vs_31 v4_1).bind fun vr_32 =>
  some (vr_32 :: [(.bool true)])).bind fun vs =>
  (resTup vs_31 (retV vs)).bind fun r => some (r, vs_31.n)))) := (lim_call F _ _ _).trans (by kernel_rfl)

noncomputable def f_spec_l17Index : IFn := (F i_spec_l17Index).getD default

noncomputable def b_spec_l17Index_1 : ICode := loopAt f_spec_l17Index.code 0

noncomputable def k_spec_l17Index_1 : XT × List AV × St → Option (AV × Nat) := resK L f_spec_l17Index.code [true, false, true] (callK f_spec_l17Index.rs)

theorem call_spec_l17Index (a0 : AV) (a1 : AV) (n : Nat) : L.call i_spec_l17Index [a0, a1] n =
  (aLen a0).bind fun v8_1 =>
  (L.loop [1, 7, 8, 9] [4] b_spec_l17Index_1 [a1, a0, v8_1, (.int .i64 0)] (st0 n)).bind k_spec_l17Index_1 := (lim_call F _ _ _).trans (by kernel_rfl)

theorem loop_spec_l17Index_1 (x1 : AV) (x7 : AV) (x8 : AV) (x9 : AV) (st : St) : L.loop [1, 7, 8, 9] [4] b_spec_l17Index_1 [x1, x7, x8, x9] st =
  (aBin .lss x9 x8).bind fun v10_1 =>
  cnd v10_1
  ((aIaddr 1 x7 x9).bind fun v12_2 =>
  (aLoad false 1 st v12_2).bind fun v13_3 =>
  (aBin .eql v13_3 x1).bind fun v16_4 =>
  cnd v16_4
  (some (.ret, [x9], st))
  ((aBin .add x9 (.int .i64 1)).bind fun v18_5 =>
  L.loop [1, 7, 8, 9] [4] b_spec_l17Index_1 [x1, x7, x8, v18_5] st))
  (some ((.exit 0), [.undef], st)) := (lim_loop F _ _ _ _ _).trans (by kernel_rfl)

theorem k_spec_l17Index_1_ret (o4 : AV) (st : St) : k_spec_l17Index_1 (.ret, [o4], st) =
  (resTup st o4).bind fun r => some (r, st.n) := by kernel_rfl

theorem k_spec_l17Index_1_0 (o4 : AV) (st : St) : k_spec_l17Index_1 ((.exit 0), [o4], st) =
  (resTup st (.int .i64 (-1))).bind fun r => some (r, st.n) := by kernel_rfl

noncomputable def f_spec_l05Compose : IFn := (F i_spec_l05Compose).getD default

theorem call_spec_l05Compose (a0 : AV) (a1 : AV) (n : Nat) : L.call i_spec_l05Compose [a0, a1] n =
  mkNew a0 (st0 n) fun v2_1 vs_2 =>
  mkNew a1 vs_2 fun v3_3 vs_4 =>
  mkNew zc_iii vs_4 fun v4_5 vs_6 =>
  (aLoad true 3 vs_6 v2_1).bind fun v9_7 =>
  (clV L i_spec_IsValidPose 0 [v9_7] vs_6).bind fun v10_8 =>
  (aUn .not v10_8.1).bind fun v11_9 =>
  cnd v11_9
  ((aStore 3 v4_5 zc_iii v10_8.2).bind fun vs_13 =>
  ((aLoad true 3 vs_13 v4_5).bind fun vr_14 =>
  some (vr_14 :: [(.bool false)])).bind fun vs =>
  (resTup vs_13 (retV vs)).bind fun r => some (r, vs_13.n))
  ((aLoad true 3 v10_8.2 v3_3).bind fun v13_15 =>
  (clV L i_spec_IsValidPose 0 [v13_15] v10_8.2).bind fun v14_16 =>
  (aUn .not v14_16.1).bind fun v15_17 =>
  cnd v15_17
  ((aStore 3 v4_5 zc_iii v14_16.2).bind fun vs_21 =>
  ((aLoad true 3 vs_21 v4_5).bind fun vr_22 =>
  some (vr_22 :: [(.bool false)])).bind fun vs =>
  (resTup vs_21 (retV vs)).bind fun r => some (r, vs_21.n))
  ((aFaddr 1 v3_3).bind fun v19_23 =>
  (aLoad false 1 v14_16.2 v19_23).bind fun v20_24 =>
  (aFaddr 2 v3_3).bind fun v21_25 =>
  (aLoad false 1 v14_16.2 v21_25).bind fun v22_26 =>
  (aFaddr 0 v2_1).bind fun v23_27 =>
  (aLoad false 1 v14_16.2 v23_27).bind fun v24_28 =>
  (clV L i_spec_RotateXY 0 [v20_24, v22_26, v24_28] v14_16.2).bind fun v25_29 =>
  (aExtr 0 v25_29.1).bind fun v26_30 =>
  (aExtr 1 v25_29.1).bind fun v27_31 =>
  (aFaddr 0 v2_1).bind fun v28_32 =>
  (aLoad false 1 v25_29.2 v28_32).bind fun v29_33 =>
  (aFaddr 0 v3_3).bind fun v30_34 =>
  (aLoad false 1 v25_29.2 v30_34).bind fun v31_35 =>
  (aBin .add v29_33 v31_35).bind fun v32_36 =>
  (aBin .rem v32_36 (.int .i64 4)).bind fun v33_37 =>
  (aFaddr 1 v2_1).bind fun v34_38 =>
  (aLoad false 1 v25_29.2 v34_38).bind fun v35_39 =>
  (aBin .add v35_39 v26_30).bind fun v37_40 =>
  (aFaddr 2 v2_1).bind fun v38_41 =>
  (aLoad false 1 v25_29.2 v38_41).bind fun v39_42 =>
  (aBin .add v39_42 v27_31).bind fun v41_43 =>
  (mkBuild [(0, 1, v33_37), (1, 1, v37_40), (2, 1, v41_43)] zc_iii.cells).bind fun v42_44 =>
  mkNew zc_iii v25_29.2 fun v8_45 vs_46 =>
  (aStore 3 v8_45 (.agg v42_44) vs_46).bind fun vs_47 =>
  (aLoad true 3 vs_47 v8_45).bind fun v43_48 =>
  (clV L i_spec_IsValidPose 0 [v43_48] vs_47).bind fun v44_49 =>
  (aUn .not v44_49.1).bind fun v45_50 =>
  cnd v45_50
  ((aStore 3 v4_5 zc_iii v44_49.2).bind fun vs_54 =>
  ((aLoad true 3 vs_54 v4_5).bind fun vr_55 =>
  some (vr_55 :: [(.bool false)])).bind fun vs =>
  (resTup vs_54 (retV vs)).bind fun r => some (r, vs_54.n))
  ((aLoad true 3 v44_49.2 v8_45).bind fun v47_56 =>
  (aStore 3 v4_5 v47_56 v44_49.2).bind fun vs_57 =>
  ((aLoad true 3 vs_57 v4_5).bind fun vr_58 =>
  some (vr_58 :: [(.bool true)])).bind fun vs =>
  (resTup vs_57 (retV vs)).bind fun r => some (r, vs_57.n)))) := (lim_call F _ _ _).trans (by kernel_rfl)

noncomputable def f_spec_Inverse : IFn := (F i_spec_Inverse).getD default

theorem call_spec_Inverse (a0 : AV) (n : Nat) : L.call i_spec_Inverse [a0] n =
  mkNew a0 (st0 n) fun v1_1 vs_2 =>
  mkNew zc_iii vs_2 fun v2_3 vs_4 =>
  (aLoad true 3 vs_4 v1_1).bind fun v6_5 =>
  (clV L i_spec_IsValidPose 0 [v6_5] vs_4).bind fun v7_6 =>
  (aUn .not v7_6.1).bind fun v8_7 =>
  cnd v8_7
  ((aStore 3 v2_3 zc_iii v7_6.2).bind fun vs_11 =>
  ((aLoad true 3 vs_11 v2_3).bind fun vr_12 =>
  some (vr_12 :: [])).bind fun vs =>
  (resTup vs_11 (retV vs)).bind fun r => some (r, vs_11.n))
  ((aFaddr 0 v1_1).bind fun v10_13 =>
  (aLoad false 1 v7_6.2 v10_13).bind fun v11_14 =>
  (aBin .sub (.int .i64 4) v11_14).bind fun v12_15 =>
  (aBin .rem v12_15 (.int .i64 4)).bind fun v13_16 =>
  (aFaddr 1 v1_1).bind fun v15_17 =>
  (aLoad false 1 v7_6.2 v15_17).bind fun v16_18 =>
  (aUn .neg v16_18).bind fun v17_19 =>
  (aFaddr 2 v1_1).bind fun v18_20 =>
  (aLoad false 1 v7_6.2 v18_20).bind fun v19_21 =>
  (aUn .neg v19_21).bind fun v20_22 =>
  (clV L i_spec_RotateXY 0 [v17_19, v20_22, v13_16] v7_6.2).bind fun v22_23 =>
  (aExtr 0 v22_23.1).bind fun v23_24 =>
  (aExtr 1 v22_23.1).bind fun v24_25 =>
  (mkBuild [(0, 1, v13_16), (1, 1, v23_24), (2, 1, v24_25)] zc_iii.cells).bind fun v28_26 =>
  (aStore 3 v2_3 (.agg v28_26) v22_23.2).bind fun vs_27 =>
  ((aLoad true 3 vs_27 v2_3).bind fun vr_28 =>
  some (vr_28 :: [])).bind fun vs =>
  (resTup vs_27 (retV vs)).bind fun r => some (r, vs_27.n)) := (lim_call F _ _ _).trans (by kernel_rfl)

noncomputable def f_spec_l21Chain : IFn := (F i_spec_l21Chain).getD default

noncomputable def b_spec_l21Chain_1 : ICode := loopAt f_spec_l21Chain.code 0

noncomputable def k_spec_l21Chain_1 : XT × List AV × St → Option (AV × Nat) := resK L f_spec_l21Chain.code [true, true, false, true] (callK f_spec_l21Chain.rs)

theorem call_spec_l21Chain (a0 : AV) (n : Nat) : L.call i_spec_l21Chain [a0] n =
  mkNew zc_iii (st0 n) fun v2_1 vs_2 =>
  mkNew zc_iii vs_2 fun v4_8 vs_9 =>
  (aStore 3 v4_8 zc_iii vs_9).bind fun vs_10 =>
  (aLen a0).bind fun v11_11 =>
  (L.loop [2, 4, 10, 11, 12] [2, 3, 4] b_spec_l21Chain_1 [v2_1, v4_8, a0, v11_11, (.int .i64 0)] vs_10).bind k_spec_l21Chain_1 := (lim_call F _ _ _).trans (by kernel_rfl)

theorem loop_spec_l21Chain_1 (x2 : AV) (x4 : AV) (x10 : AV) (x11 : AV) (x12 : AV) (st : St) : L.loop [2, 4, 10, 11, 12] [2, 3, 4] b_spec_l21Chain_1 [x2, x4, x10, x11, x12] st =
  (aBin .lss x12 x11).bind fun v13_1 =>
  cnd v13_1
  ((aIaddr 3 x10 x12).bind fun v14_2 =>
  (aLoad true 3 st v14_2).bind fun v15_3 =>
  mkNew zc_iii st fun v6_4 vs_5 =>
  (aStore 3 v6_4 v15_3 vs_5).bind fun vs_6 =>
  (aLoad true 3 vs_6 x4).bind fun v17_7 =>
  (aLoad true 3 vs_6 v6_4).bind fun v18_8 =>
  (clV L i_spec_l05Compose 0 [v17_7, v18_8] vs_6).bind fun v19_9 =>
  (aExtr 0 v19_9.1).bind fun v20_10 =>
  (aExtr 1 v19_9.1).bind fun v21_11 =>
  mkNew zc_iii v19_9.2 fun v7_12 vs_13 =>
  (aStore 3 v7_12 v20_10 vs_13).bind fun vs_14 =>
  (aUn .not v21_11).bind fun v23_15 =>
  cnd v23_15
  ((aStore 3 x2 zc_iii vs_14).bind fun vs_18 =>
  some (.ret, [x2, (.bool false), x4], vs_18))
  ((aLoad true 3 vs_14 v7_12).bind fun v25_19 =>
  (aStore 3 x4 v25_19 vs_14).bind fun vs_20 =>
  (aBin .add x12 (.int .i64 1)).bind fun v26_21 =>
  L.loop [2, 4, 10, 11, 12] [2, 3, 4] b_spec_l21Chain_1 [x2, x4, x10, x11, v26_21] vs_20))
  (some ((.exit 0), [x2, .undef, x4], st)) := (lim_loop F _ _ _ _ _).trans (by kernel_rfl)

theorem k_spec_l21Chain_1_ret (o2 : AV) (o3 : AV) (o4 : AV) (st : St) : k_spec_l21Chain_1 (.ret, [o2, o3, o4], st) =
  ((aLoad true 3 st o2).bind fun vr_1 =>
  some (vr_1 :: [o3])).bind fun vs =>
  (resTup st (retV vs)).bind fun r => some (r, st.n) := by kernel_rfl

theorem k_spec_l21Chain_1_0 (o2 : AV) (o3 : AV) (o4 : AV) (st : St) : k_spec_l21Chain_1 ((.exit 0), [o2, o3, o4], st) =
  (aLoad true 3 st o4).bind fun v27_1 =>
  (aStore 3 o2 v27_1 st).bind fun vs_2 =>
  ((aLoad true 3 vs_2 o2).bind fun vr_3 =>
  some (vr_3 :: [(.bool true)])).bind fun vs =>
  (resTup vs_2 (retV vs)).bind fun r => some (r, vs_2.n) := by kernel_rfl

noncomputable def f_impl_composeOk : IFn := (F i_impl_composeOk).getD default

theorem call_impl_composeOk (a0 : AV) (a1 : AV) (n : Nat) : L.call i_impl_composeOk [a0, a1] n =
  mkNew a0 (st0 n) fun v2_1 vs_2 =>
  mkNew a1 vs_2 fun v3_3 vs_4 =>
  mkNew zc_iii vs_4 fun v4_5 vs_6 =>
  (aLoad true 3 vs_6 v2_1).bind fun v9_7 =>
  (clV L i_impl_IsValidPose 0 [v9_7] vs_6).bind fun v10_8 =>
  (aUn .not v10_8.1).bind fun v11_9 =>
  cnd v11_9
  ((aStore 3 v4_5 zc_iii v10_8.2).bind fun vs_13 =>
  ((aLoad true 3 vs_13 v4_5).bind fun vr_14 =>
  some (vr_14 :: [(.bool false)])).bind fun vs =>
  (resTup vs_13 (retV vs)).bind fun r => some (r, vs_13.n))
  ((aLoad true 3 v10_8.2 v3_3).bind fun v13_15 =>
  (clV L i_impl_IsValidPose 0 [v13_15] v10_8.2).bind fun v14_16 =>
  (aUn .not v14_16.1).bind fun v15_17 =>
  cnd v15_17
  ((aStore 3 v4_5 zc_iii v14_16.2).bind fun vs_21 =>
  ((aLoad true 3 vs_21 v4_5).bind fun vr_22 =>
  some (vr_22 :: [(.bool false)])).bind fun vs =>
  (resTup vs_21 (retV vs)).bind fun r => some (r, vs_21.n))
  ((aFaddr 1 v3_3).bind fun v19_23 =>
  (aLoad false 1 v14_16.2 v19_23).bind fun v20_24 =>
  (aFaddr 2 v3_3).bind fun v21_25 =>
  (aLoad false 1 v14_16.2 v21_25).bind fun v22_26 =>
  (aFaddr 0 v2_1).bind fun v23_27 =>
  (aLoad false 1 v14_16.2 v23_27).bind fun v24_28 =>
  (clV L i_impl_RotateXY 0 [v20_24, v22_26, v24_28] v14_16.2).bind fun v25_29 =>
  (aExtr 0 v25_29.1).bind fun v26_30 =>
  (aExtr 1 v25_29.1).bind fun v27_31 =>
  (aFaddr 0 v2_1).bind fun v28_32 =>
  (aLoad false 1 v25_29.2 v28_32).bind fun v29_33 =>
  (aFaddr 0 v3_3).bind fun v30_34 =>
  (aLoad false 1 v25_29.2 v30_34).bind fun v31_35 =>
  (aBin .add v29_33 v31_35).bind fun v32_36 =>
  (aBin .rem v32_36 (.int .i64 4)).bind fun v33_37 =>
  (aFaddr 1 v2_1).bind fun v34_38 =>
  (aLoad false 1 v25_29.2 v34_38).bind fun v35_39 =>
  (aBin .add v35_39 v26_30).bind fun v37_40 =>
  (aFaddr 2 v2_1).bind fun v38_41 =>
  (aLoad false 1 v25_29.2 v38_41).bind fun v39_42 =>
  (aBin .add v39_42 v27_31).bind fun v41_43 =>
  (mkBuild [(0, 1, v33_37), (1, 1, v37_40), (2, 1, v41_43)] zc_iii.cells).bind fun v42_44 =>
  mkNew zc_iii v25_29.2 fun v8_45 vs_46 =>
  (aStore 3 v8_45 (.agg v42_44) vs_46).bind fun vs_47 =>
  (aLoad true 3 vs_47 v8_45).bind fun v43_48 =>
  (clV L i_impl_IsValidPose 0 [v43_48] vs_47).bind fun v44_49 =>
  (aUn .not v44_49.1).bind fun v45_50 =>
  cnd v45_50
  ((aStore 3 v4_5 zc_iii v44_49.2).bind fun vs_54 =>
  ((aLoad true 3 vs_54 v4_5).bind fun vr_55 =>
  some (vr_55 :: [(.bool false)])).bind fun vs =>
  (resTup vs_54 (retV vs)).bind fun r => some (r, vs_54.n))
  ((aLoad true 3 v44_49.2 v8_45).bind fun v47_56 =>
  (aStore 3 v4_5 v47_56 v44_49.2).bind fun vs_57 =>
  ((aLoad true 3 vs_57 v4_5).bind fun vr_58 =>
  some (vr_58 :: [(.bool true)])).bind fun vs =>
  (resTup vs_57 (retV vs)).bind fun r => some (r, vs_57.n)))) := (lim_call F _ _ _).trans (by kernel_rfl)

noncomputable def f_impl_Inverse : IFn := (F i_impl_Inverse).getD default

theorem call_impl_Inverse (a0 : AV) (n : Nat) : L.call i_impl_Inverse [a0] n =
  mkNew a0 (st0 n) fun v1_1 vs_2 =>
  mkNew zc_iii vs_2 fun v2_3 vs_4 =>
  (aLoad true 3 vs_4 v1_1).bind fun v6_5 =>
  (clV L i_impl_IsValidPose 0 [v6_5] vs_4).bind fun v7_6 =>
  (aUn .not v7_6.1).bind fun v8_7 =>
  cnd v8_7
  ((aStore 3 v2_3 zc_iii v7_6.2).bind fun vs_11 =>
  ((aLoad true 3 vs_11 v2_3).bind fun vr_12 =>
  some (vr_12 :: [])).bind fun vs =>
  (resTup vs_11 (retV vs)).bind fun r => some (r, vs_11.n))
  ((aFaddr 0 v1_1).bind fun v10_13 =>
  (aLoad false 1 v7_6.2 v10_13).bind fun v11_14 =>
  (aBin .sub (.int .i64 4) v11_14).bind fun v12_15 =>
  (aBin .rem v12_15 (.int .i64 4)).bind fun v13_16 =>
  (aFaddr 1 v1_1).bind fun v15_17 =>
  (aLoad false 1 v7_6.2 v15_17).bind fun v16_18 =>
  (aUn .neg v16_18).bind fun v17_19 =>
  (aFaddr 2 v1_1).bind fun v18_20 =>
  (aLoad false 1 v7_6.2 v18_20).bind fun v19_21 =>
  (aUn .neg v19_21).bind fun v20_22 =>
  (clV L i_impl_RotateXY 0 [v17_19, v20_22, v13_16] v7_6.2).bind fun v22_23 =>
  (aExtr 0 v22_23.1).bind fun v23_24 =>
  (aExtr 1 v22_23.1).bind fun v24_25 =>
  (mkBuild [(0, 1, v13_16), (1, 1, v23_24), (2, 1, v24_25)] zc_iii.cells).bind fun v28_26 =>
  (aStore 3 v2_3 (.agg v28_26) v22_23.2).bind fun vs_27 =>
  ((aLoad true 3 vs_27 v2_3).bind fun vr_28 =>
  some (vr_28 :: [])).bind fun vs =>
  (resTup vs_27 (retV vs)).bind fun r => some (r, vs_27.n)) := (lim_call F _ _ _).trans (by kernel_rfl)

noncomputable def f_impl_composeAllOk : IFn := (F i_impl_composeAllOk).getD default

noncomputable def b_impl_composeAllOk_1 : ICode := loopAt f_impl_composeAllOk.code 0

noncomputable def k_impl_composeAllOk_1 : XT × List AV × St → Option (AV × Nat) := resK L f_impl_composeAllOk.code [true, true, true, false, true] (callK f_impl_composeAllOk.rs)

theorem call_impl_composeAllOk (a0 : AV) (n : Nat) : L.call i_impl_composeAllOk [a0] n =
  mkNew zc_iii (st0 n) fun v2_1 vs_2 =>
  mkNew zc_iii vs_2 fun v4_8 vs_9 =>
  (aStore 3 v4_8 zc_iii vs_9).bind fun vs_10 =>
  (aLen a0).bind fun v10_11 =>
  (L.loop [2, 4, 9, 10, 11] [2, 3, 4] b_impl_composeAllOk_1 [v2_1, v4_8, a0, v10_11, (.int .i64 0)] vs_10).bind k_impl_composeAllOk_1 := (lim_call F _ _ _).trans (by kernel_rfl)

theorem loop_impl_composeAllOk_1 (x2 : AV) (x4 : AV) (x9 : AV) (x10 : AV) (x11 : AV) (st : St) : L.loop [2, 4, 9, 10, 11] [2, 3, 4] b_impl_composeAllOk_1 [x2, x4, x9, x10, x11] st =
  (aBin .lss x11 x10).bind fun v12_1 =>
  cnd v12_1
  ((aIaddr 3 x9 x11).bind fun v13_2 =>
  (aLoad true 3 st v13_2).bind fun v14_3 =>
  mkNew zc_iii st fun v7_4 vs_5 =>
  (aStore 3 v7_4 v14_3 vs_5).bind fun vs_6 =>
  (aLoad true 3 vs_6 x4).bind fun v16_7 =>
  (aLoad true 3 vs_6 v7_4).bind fun v17_8 =>
  (clV L i_impl_composeOk 0 [v16_7, v17_8] vs_6).bind fun v18_9 =>
  (aExtr 0 v18_9.1).bind fun v19_10 =>
  (aExtr 1 v18_9.1).bind fun v20_11 =>
  (aStore 3 x4 v19_10 v18_9.2).bind fun vs_12 =>
  (aUn .not v20_11).bind fun v22_13 =>
  cnd v22_13
  ((aStore 3 x2 zc_iii vs_12).bind fun vs_16 =>
  some (.ret, [x2, (.bool false), x4], vs_16))
  ((aBin .add x11 (.int .i64 1)).bind fun v24_17 =>
  L.loop [2, 4, 9, 10, 11] [2, 3, 4] b_impl_composeAllOk_1 [x2, x4, x9, x10, v24_17] vs_12))
  (some ((.exit 0), [x2, .undef, x4], st)) := (lim_loop F _ _ _ _ _).trans (by kernel_rfl)

theorem k_impl_composeAllOk_1_ret (o2 : AV) (o3 : AV) (o4 : AV) (st : St) : k_impl_composeAllOk_1 (.ret, [o2, o3, o4], st) =
  ((aLoad true 3 st o2).bind fun vr_1 =>
  some (vr_1 :: [o3])).bind fun vs =>
  (resTup st (retV vs)).bind fun r => some (r, st.n) := by kernel_rfl

theorem k_impl_composeAllOk_1_0 (o2 : AV) (o3 : AV) (o4 : AV) (st : St) : k_impl_composeAllOk_1 ((.exit 0), [o2, o3, o4], st) =
  (aLoad true 3 st o4).bind fun v25_1 =>
  (aStore 3 o2 v25_1 st).bind fun vs_2 =>
  ((aLoad true 3 vs_2 o2).bind fun vr_3 =>
  some (vr_3 :: [(.bool true)])).bind fun vs =>
  (resTup vs_2 (retV vs)).bind fun r => some (r, vs_2.n) := by kernel_rfl

noncomputable def f_spec_IsValidPose : IFn := (F i_spec_IsValidPose).getD default

theorem call_spec_IsValidPose (a0 : AV) (n : Nat) : L.call i_spec_IsValidPose [a0] n =
  mkNew a0 (st0 n) fun v1_1 vs_2 =>
  (aFaddr 0 v1_1).bind fun v3_3 =>
  (aLoad false 1 vs_2 v3_3).bind fun v4_4 =>
  (clV L i_spec_l01In 0 [v4_4, (.int .i64 0), (.int .i64 3)] vs_2).bind fun v5_5 =>
  cnd v5_5.1
  ((aFaddr 1 v1_1).bind fun v7_6 =>
  (aLoad false 1 v5_5.2 v7_6).bind fun v8_7 =>
  (clV L i_spec_l01In 0 [v8_7, (.int .i64 (-1000000)), (.int .i64 1000000)] v5_5.2).bind fun v9_8 =>
  cnd v9_8.1
  ((aFaddr 2 v1_1).bind fun v12_9 =>
  (aLoad false 1 v9_8.2 v12_9).bind fun v13_10 =>
  (clV L i_spec_l01In 0 [v13_10, (.int .i64 (-1000000)), (.int .i64 1000000)] v9_8.2).bind fun v14_11 =>
  (resTup v14_11.2 v14_11.1).bind fun r => some (r, v14_11.2.n))
  ((resTup v9_8.2 (.bool false)).bind fun r => some (r, v9_8.2.n)))
  ((resTup v5_5.2 (.bool false)).bind fun r => some (r, v5_5.2.n)) := (lim_call F _ _ _).trans (by kernel_rfl)

noncomputable def f_spec_IsLandmarkName : IFn := (F i_spec_IsLandmarkName).getD default

theorem call_spec_IsLandmarkName (a0 : AV) (n : Nat) : L.call i_spec_IsLandmarkName [a0] n =
  (clV L i_spec_IsName 0 [a0] (st0 n)).bind fun v4_1 =>
  cnd v4_1.1
  ((aSidx a0 (.int .i64 0)).bind fun v7_2 =>
  (aBin .eql v7_2 (.int .u8 109)).bind fun v8_3 =>
  (resTup v4_1.2 v8_3).bind fun r => some (r, v4_1.2.n))
  ((resTup v4_1.2 (.bool false)).bind fun r => some (r, v4_1.2.n)) := (lim_call F _ _ _).trans (by kernel_rfl)

noncomputable def f_spec_l16Has : IFn := (F i_spec_l16Has).getD default

noncomputable def b_spec_l16Has_1 : ICode := loopAt f_spec_l16Has.code 0

noncomputable def k_spec_l16Has_1 : XT × List AV × St → Option (AV × Nat) := resK L f_spec_l16Has.code [true, false, true] (callK f_spec_l16Has.rs)

theorem call_spec_l16Has (a0 : AV) (a1 : AV) (n : Nat) : L.call i_spec_l16Has [a0, a1] n =
  (aLen a0).bind fun v8_1 =>
  (L.loop [1, 7, 8, 9] [4] b_spec_l16Has_1 [a1, a0, v8_1, (.int .i64 0)] (st0 n)).bind k_spec_l16Has_1 := (lim_call F _ _ _).trans (by kernel_rfl)

theorem loop_spec_l16Has_1 (x1 : AV) (x7 : AV) (x8 : AV) (x9 : AV) (st : St) : L.loop [1, 7, 8, 9] [4] b_spec_l16Has_1 [x1, x7, x8, x9] st =
  (aBin .lss x9 x8).bind fun v10_1 =>
  cnd v10_1
  ((aIaddr 1 x7 x9).bind fun v11_2 =>
  (aLoad false 1 st v11_2).bind fun v12_3 =>
  (aBin .eql v12_3 x1).bind fun v15_4 =>
  cnd v15_4
  (some (.ret, [(.bool true)], st))
  ((aBin .add x9 (.int .i64 1)).bind fun v16_5 =>
  L.loop [1, 7, 8, 9] [4] b_spec_l16Has_1 [x1, x7, x8, v16_5] st))
  (some ((.exit 0), [.undef], st)) := (lim_loop F _ _ _ _ _).trans (by kernel_rfl)

theorem k_spec_l16Has_1_ret (o4 : AV) (st : St) : k_spec_l16Has_1 (.ret, [o4], st) =
  (resTup st o4).bind fun r => some (r, st.n) := by kernel_rfl

theorem k_spec_l16Has_1_0 (o4 : AV) (st : St) : k_spec_l16Has_1 ((.exit 0), [o4], st) =
  (resTup st (.bool false)).bind fun r => some (r, st.n) := by kernel_rfl

noncomputable def f_spec_l17Reckon : IFn := (F i_spec_l17Reckon).getD default

noncomputable def b_spec_l17Reckon_1 : ICode := loopAt f_spec_l17Reckon.code 0

noncomputable def k_spec_l17Reckon_1 : XT × List AV × St → Option (AV × Nat) := resK L f_spec_l17Reckon.code [true, false, true] (callK f_spec_l17Reckon.rs)

theorem call_spec_l17Reckon (a0 : AV) (a1 : AV) (a2 : AV) (a3 : AV) (n : Nat) : L.call i_spec_l17Reckon [a0, a1, a2, a3] n =
  mkNew zc_iii (st0 n) fun v9_1 vs_2 =>
  (aLen a0).bind fun v19_3 =>
  (L.loop [1, 2, 3, 9, 18, 19, 20] [8, 9] b_spec_l17Reckon_1 [a1, a2, a3, v9_1, a0, v19_3, (.int .i64 0)] vs_2).bind k_spec_l17Reckon_1 := (lim_call F _ _ _).trans (by kernel_rfl)

theorem loop_spec_l17Reckon_1 (x1 : AV) (x2 : AV) (x3 : AV) (x9 : AV) (x18 : AV) (x19 : AV) (x20 : AV) (st : St) : L.loop [1, 2, 3, 9, 18, 19, 20] [8, 9] b_spec_l17Reckon_1 [x1, x2, x3, x9, x18, x19, x20] st =
  (aBin .lss x20 x19).bind fun v21_1 =>
  cnd v21_1
  ((aIaddr 8 x18 x20).bind fun v22_2 =>
  (aLoad true 8 st v22_2).bind fun v23_3 =>
  mkNew zc_iissiiii st fun v11_4 vs_5 =>
  (aStore 8 v11_4 v23_3 vs_5).bind fun vs_6 =>
  (aFaddr 3 v11_4).bind fun v25_7 =>
  (aLoad false 1 vs_6 v25_7).bind fun v26_8 =>
  (clV L i_spec_l17Index 0 [x1, v26_8] vs_6).bind fun v27_9 =>
  (aFaddr 1 v11_4).bind fun v28_10 =>
  (aLoad false 1 v27_9.2 v28_10).bind fun v29_11 =>
  (aBin .eql v29_11 (.int .i64 1)).bind fun v30_12 =>
  cnd v30_12
  ((aIaddr 1 x3 v27_9.1).bind fun v34_13 =>
  (aLoad false 1 v27_9.2 v34_13).bind fun v35_14 =>
  (aUn .not v35_14).bind fun v36_15 =>
  cnd v36_15
  ((aFaddr 4 v11_4).bind fun v39_16 =>
  (aLoad true 3 v27_9.2 v39_16).bind fun v40_17 =>
  (aStore 3 x9 v40_17 v27_9.2).bind fun vs_18 =>
  some (.ret, [v27_9.1, x9], vs_18))
  ((aFaddr 1 v11_4).bind fun v41_19 =>
  (aLoad false 1 v27_9.2 v41_19).bind fun v42_20 =>
  (aBin .neq v42_20 (.int .i64 2)).bind fun v43_21 =>
  cnd v43_21
  ((aBin .add x20 (.int .i64 1)).bind fun v97_22 =>
  L.loop [1, 2, 3, 9, 18, 19, 20] [8, 9] b_spec_l17Reckon_1 [x1, x2, x3, x9, x18, x19, v97_22] v27_9.2)
  ((aFaddr 2 v11_4).bind fun v45_23 =>
  (aLoad false 1 v27_9.2 v45_23).bind fun v46_24 =>
  (clV L i_spec_l17Index 0 [x1, v46_24] v27_9.2).bind fun v47_25 =>
  (aIaddr 1 x3 v47_25.1).bind fun v50_26 =>
  (aLoad false 1 v47_25.2 v50_26).bind fun v51_27 =>
  cnd v51_27
  ((aIaddr 1 x3 v27_9.1).bind fun v55_28 =>
  (aLoad false 1 v47_25.2 v55_28).bind fun v56_29 =>
  (aUn .not v56_29).bind fun v57_30 =>
  cnd v57_30
  ((aIaddr 3 x2 v47_25.1).bind fun v62_31 =>
  (aLoad true 3 v47_25.2 v62_31).bind fun v63_32 =>
  (aFaddr 4 v11_4).bind fun v64_33 =>
  (aLoad true 3 v47_25.2 v64_33).bind fun v65_34 =>
  (clV L i_spec_l05Compose 0 [v63_32, v65_34] v47_25.2).bind fun v66_35 =>
  (aExtr 0 v66_35.1).bind fun v67_36 =>
  (aExtr 1 v66_35.1).bind fun v68_37 =>
  mkNew zc_iii v66_35.2 fun v14_38 vs_39 =>
  (aStore 3 v14_38 v67_36 vs_39).bind fun vs_40 =>
  cnd v68_37
  ((aLoad true 3 vs_40 v14_38).bind fun v71_41 =>
  (aStore 3 x9 v71_41 vs_40).bind fun vs_42 =>
  some (.ret, [v27_9.1, x9], vs_42))
  ((aIaddr 1 x3 v47_25.1).bind fun v74_43 =>
  (aLoad false 1 vs_40 v74_43).bind fun v75_44 =>
  (aUn .not v75_44).bind fun v76_45 =>
  cnd v76_45
  ((aIaddr 1 x3 v27_9.1).bind fun v80_46 =>
  (aLoad false 1 vs_40 v80_46).bind fun v81_47 =>
  cnd v81_47
  ((aIaddr 3 x2 v27_9.1).bind fun v86_48 =>
  (aLoad true 3 vs_40 v86_48).bind fun v87_49 =>
  (aFaddr 4 v11_4).bind fun v88_50 =>
  (aLoad true 3 vs_40 v88_50).bind fun v89_51 =>
  (clV L i_spec_Inverse 0 [v89_51] vs_40).bind fun v90_52 =>
  (clV L i_spec_l05Compose 0 [v87_49, v90_52.1] v90_52.2).bind fun v91_53 =>
  (aExtr 0 v91_53.1).bind fun v92_54 =>
  (aExtr 1 v91_53.1).bind fun v93_55 =>
  mkNew zc_iii v91_53.2 fun v16_56 vs_57 =>
  (aStore 3 v16_56 v92_54 vs_57).bind fun vs_58 =>
  cnd v93_55
  ((aLoad true 3 vs_58 v16_56).bind fun v96_59 =>
  (aStore 3 x9 v96_59 vs_58).bind fun vs_60 =>
  some (.ret, [v47_25.1, x9], vs_60))
  ((aBin .add x20 (.int .i64 1)).bind fun v97_61 =>
  L.loop [1, 2, 3, 9, 18, 19, 20] [8, 9] b_spec_l17Reckon_1 [x1, x2, x3, x9, x18, x19, v97_61] vs_58))
  ((aBin .add x20 (.int .i64 1)).bind fun v97_62 =>
  L.loop [1, 2, 3, 9, 18, 19, 20] [8, 9] b_spec_l17Reckon_1 [x1, x2, x3, x9, x18, x19, v97_62] vs_40))
  ((aBin .add x20 (.int .i64 1)).bind fun v97_63 =>
  L.loop [1, 2, 3, 9, 18, 19, 20] [8, 9] b_spec_l17Reckon_1 [x1, x2, x3, x9, x18, x19, v97_63] vs_40)))
  ((aIaddr 1 x3 v47_25.1).bind fun v74_64 =>
  (aLoad false 1 v47_25.2 v74_64).bind fun v75_65 =>
  (aUn .not v75_65).bind fun v76_66 =>
  cnd v76_66
  ((aIaddr 1 x3 v27_9.1).bind fun v80_67 =>
  (aLoad false 1 v47_25.2 v80_67).bind fun v81_68 =>
  cnd v81_68
  ((aIaddr 3 x2 v27_9.1).bind fun v86_69 =>
  (aLoad true 3 v47_25.2 v86_69).bind fun v87_70 =>
  (aFaddr 4 v11_4).bind fun v88_71 =>
  (aLoad true 3 v47_25.2 v88_71).bind fun v89_72 =>
  (clV L i_spec_Inverse 0 [v89_72] v47_25.2).bind fun v90_73 =>
  (clV L i_spec_l05Compose 0 [v87_70, v90_73.1] v90_73.2).bind fun v91_74 =>
  (aExtr 0 v91_74.1).bind fun v92_75 =>
  (aExtr 1 v91_74.1).bind fun v93_76 =>
  mkNew zc_iii v91_74.2 fun v16_77 vs_78 =>
  (aStore 3 v16_77 v92_75 vs_78).bind fun vs_79 =>
  cnd v93_76
  ((aLoad true 3 vs_79 v16_77).bind fun v96_80 =>
  (aStore 3 x9 v96_80 vs_79).bind fun vs_81 =>
  some (.ret, [v47_25.1, x9], vs_81))
  ((aBin .add x20 (.int .i64 1)).bind fun v97_82 =>
  L.loop [1, 2, 3, 9, 18, 19, 20] [8, 9] b_spec_l17Reckon_1 [x1, x2, x3, x9, x18, x19, v97_82] vs_79))
  ((aBin .add x20 (.int .i64 1)).bind fun v97_83 =>
  L.loop [1, 2, 3, 9, 18, 19, 20] [8, 9] b_spec_l17Reckon_1 [x1, x2, x3, x9, x18, x19, v97_83] v47_25.2))
  ((aBin .add x20 (.int .i64 1)).bind fun v97_84 =>
  L.loop [1, 2, 3, 9, 18, 19, 20] [8, 9] b_spec_l17Reckon_1 [x1, x2, x3, x9, x18, x19, v97_84] v47_25.2)))
  ((aIaddr 1 x3 v47_25.1).bind fun v74_85 =>
  (aLoad false 1 v47_25.2 v74_85).bind fun v75_86 =>
  (aUn .not v75_86).bind fun v76_87 =>
  cnd v76_87
  ((aIaddr 1 x3 v27_9.1).bind fun v80_88 =>
  (aLoad false 1 v47_25.2 v80_88).bind fun v81_89 =>
  cnd v81_89
  ((aIaddr 3 x2 v27_9.1).bind fun v86_90 =>
  (aLoad true 3 v47_25.2 v86_90).bind fun v87_91 =>
  (aFaddr 4 v11_4).bind fun v88_92 =>
  (aLoad true 3 v47_25.2 v88_92).bind fun v89_93 =>
  (clV L i_spec_Inverse 0 [v89_93] v47_25.2).bind fun v90_94 =>
  (clV L i_spec_l05Compose 0 [v87_91, v90_94.1] v90_94.2).bind fun v91_95 =>
  (aExtr 0 v91_95.1).bind fun v92_96 =>
  (aExtr 1 v91_95.1).bind fun v93_97 =>
  mkNew zc_iii v91_95.2 fun v16_98 vs_99 =>
  (aStore 3 v16_98 v92_96 vs_99).bind fun vs_100 =>
  cnd v93_97
  ((aLoad true 3 vs_100 v16_98).bind fun v96_101 =>
  (aStore 3 x9 v96_101 vs_100).bind fun vs_102 =>
  some (.ret, [v47_25.1, x9], vs_102))
  ((aBin .add x20 (.int .i64 1)).bind fun v97_103 =>
  L.loop [1, 2, 3, 9, 18, 19, 20] [8, 9] b_spec_l17Reckon_1 [x1, x2, x3, x9, x18, x19, v97_103] vs_100))
  ((aBin .add x20 (.int .i64 1)).bind fun v97_104 =>
  L.loop [1, 2, 3, 9, 18, 19, 20] [8, 9] b_spec_l17Reckon_1 [x1, x2, x3, x9, x18, x19, v97_104] v47_25.2))
  ((aBin .add x20 (.int .i64 1)).bind fun v97_105 =>
  L.loop [1, 2, 3, 9, 18, 19, 20] [8, 9] b_spec_l17Reckon_1 [x1, x2, x3, x9, x18, x19, v97_105] v47_25.2)))))
  ((aFaddr 1 v11_4).bind fun v41_106 =>
  (aLoad false 1 v27_9.2 v41_106).bind fun v42_107 =>
  (aBin .neq v42_107 (.int .i64 2)).bind fun v43_108 =>
  cnd v43_108
  ((aBin .add x20 (.int .i64 1)).bind fun v97_109 =>
  L.loop [1, 2, 3, 9, 18, 19, 20] [8, 9] b_spec_l17Reckon_1 [x1, x2, x3, x9, x18, x19, v97_109] v27_9.2)
  ((aFaddr 2 v11_4).bind fun v45_110 =>
  (aLoad false 1 v27_9.2 v45_110).bind fun v46_111 =>
  (clV L i_spec_l17Index 0 [x1, v46_111] v27_9.2).bind fun v47_112 =>
  (aIaddr 1 x3 v47_112.1).bind fun v50_113 =>
  (aLoad false 1 v47_112.2 v50_113).bind fun v51_114 =>
  cnd v51_114
  ((aIaddr 1 x3 v27_9.1).bind fun v55_115 =>
  (aLoad false 1 v47_112.2 v55_115).bind fun v56_116 =>
  (aUn .not v56_116).bind fun v57_117 =>
  cnd v57_117
  ((aIaddr 3 x2 v47_112.1).bind fun v62_118 =>
  (aLoad true 3 v47_112.2 v62_118).bind fun v63_119 =>
  (aFaddr 4 v11_4).bind fun v64_120 =>
  (aLoad true 3 v47_112.2 v64_120).bind fun v65_121 =>
  (clV L i_spec_l05Compose 0 [v63_119, v65_121] v47_112.2).bind fun v66_122 =>
  (aExtr 0 v66_122.1).bind fun v67_123 =>
  (aExtr 1 v66_122.1).bind fun v68_124 =>
  mkNew zc_iii v66_122.2 fun v14_125 vs_126 =>
  (aStore 3 v14_125 v67_123 vs_126).bind fun vs_127 =>
  cnd v68_124
  ((aLoad true 3 vs_127 v14_125).bind fun v71_128 =>
  (aStore 3 x9 v71_128 vs_127).bind fun vs_129 =>
  some (.ret, [v27_9.1, x9], vs_129))
  ((aIaddr 1 x3 v47_112.1).bind fun v74_130 =>
  (aLoad false 1 vs_127 v74_130).bind fun v75_131 =>
  (aUn .not v75_131).bind fun v76_132 =>
  cnd v76_132
  ((aIaddr 1 x3 v27_9.1).bind fun v80_133 =>
  (aLoad false 1 vs_127 v80_133).bind fun v81_134 =>
  cnd v81_134
  ((aIaddr 3 x2 v27_9.1).bind fun v86_135 =>
  (aLoad true 3 vs_127 v86_135).bind fun v87_136 =>
  (aFaddr 4 v11_4).bind fun v88_137 =>
  (aLoad true 3 vs_127 v88_137).bind fun v89_138 =>
  (clV L i_spec_Inverse 0 [v89_138] vs_127).bind fun v90_139 =>
  (clV L i_spec_l05Compose 0 [v87_136, v90_139.1] v90_139.2).bind fun v91_140 =>
  (aExtr 0 v91_140.1).bind fun v92_141 =>
  (aExtr 1 v91_140.1).bind fun v93_142 =>
  mkNew zc_iii v91_140.2 fun v16_143 vs_144 =>
  (aStore 3 v16_143 v92_141 vs_144).bind fun vs_145 =>
  cnd v93_142
  ((aLoad true 3 vs_145 v16_143).bind fun v96_146 =>
  (aStore 3 x9 v96_146 vs_145).bind fun vs_147 =>
  some (.ret, [v47_112.1, x9], vs_147))
  ((aBin .add x20 (.int .i64 1)).bind fun v97_148 =>
  L.loop [1, 2, 3, 9, 18, 19, 20] [8, 9] b_spec_l17Reckon_1 [x1, x2, x3, x9, x18, x19, v97_148] vs_145))
  ((aBin .add x20 (.int .i64 1)).bind fun v97_149 =>
  L.loop [1, 2, 3, 9, 18, 19, 20] [8, 9] b_spec_l17Reckon_1 [x1, x2, x3, x9, x18, x19, v97_149] vs_127))
  ((aBin .add x20 (.int .i64 1)).bind fun v97_150 =>
  L.loop [1, 2, 3, 9, 18, 19, 20] [8, 9] b_spec_l17Reckon_1 [x1, x2, x3, x9, x18, x19, v97_150] vs_127)))
  ((aIaddr 1 x3 v47_112.1).bind fun v74_151 =>
  (aLoad false 1 v47_112.2 v74_151).bind fun v75_152 =>
  (aUn .not v75_152).bind fun v76_153 =>
  cnd v76_153
  ((aIaddr 1 x3 v27_9.1).bind fun v80_154 =>
  (aLoad false 1 v47_112.2 v80_154).bind fun v81_155 =>
  cnd v81_155
  ((aIaddr 3 x2 v27_9.1).bind fun v86_156 =>
  (aLoad true 3 v47_112.2 v86_156).bind fun v87_157 =>
  (aFaddr 4 v11_4).bind fun v88_158 =>
  (aLoad true 3 v47_112.2 v88_158).bind fun v89_159 =>
  (clV L i_spec_Inverse 0 [v89_159] v47_112.2).bind fun v90_160 =>
  (clV L i_spec_l05Compose 0 [v87_157, v90_160.1] v90_160.2).bind fun v91_161 =>
  (aExtr 0 v91_161.1).bind fun v92_162 =>
  (aExtr 1 v91_161.1).bind fun v93_163 =>
  mkNew zc_iii v91_161.2 fun v16_164 vs_165 =>
  (aStore 3 v16_164 v92_162 vs_165).bind fun vs_166 =>
  cnd v93_163
  ((aLoad true 3 vs_166 v16_164).bind fun v96_167 =>
  (aStore 3 x9 v96_167 vs_166).bind fun vs_168 =>
  some (.ret, [v47_112.1, x9], vs_168))
  ((aBin .add x20 (.int .i64 1)).bind fun v97_169 =>
  L.loop [1, 2, 3, 9, 18, 19, 20] [8, 9] b_spec_l17Reckon_1 [x1, x2, x3, x9, x18, x19, v97_169] vs_166))
  ((aBin .add x20 (.int .i64 1)).bind fun v97_170 =>
  L.loop [1, 2, 3, 9, 18, 19, 20] [8, 9] b_spec_l17Reckon_1 [x1, x2, x3, x9, x18, x19, v97_170] v47_112.2))
  ((aBin .add x20 (.int .i64 1)).bind fun v97_171 =>
  L.loop [1, 2, 3, 9, 18, 19, 20] [8, 9] b_spec_l17Reckon_1 [x1, x2, x3, x9, x18, x19, v97_171] v47_112.2)))
  ((aIaddr 1 x3 v47_112.1).bind fun v74_172 =>
  (aLoad false 1 v47_112.2 v74_172).bind fun v75_173 =>
  (aUn .not v75_173).bind fun v76_174 =>
  cnd v76_174
  ((aIaddr 1 x3 v27_9.1).bind fun v80_175 =>
  (aLoad false 1 v47_112.2 v80_175).bind fun v81_176 =>
  cnd v81_176
  ((aIaddr 3 x2 v27_9.1).bind fun v86_177 =>
  (aLoad true 3 v47_112.2 v86_177).bind fun v87_178 =>
  (aFaddr 4 v11_4).bind fun v88_179 =>
  (aLoad true 3 v47_112.2 v88_179).bind fun v89_180 =>
  (clV L i_spec_Inverse 0 [v89_180] v47_112.2).bind fun v90_181 =>
  (clV L i_spec_l05Compose 0 [v87_178, v90_181.1] v90_181.2).bind fun v91_182 =>
  (aExtr 0 v91_182.1).bind fun v92_183 =>
  (aExtr 1 v91_182.1).bind fun v93_184 =>
  mkNew zc_iii v91_182.2 fun v16_185 vs_186 =>
  (aStore 3 v16_185 v92_183 vs_186).bind fun vs_187 =>
  cnd v93_184
  ((aLoad true 3 vs_187 v16_185).bind fun v96_188 =>
  (aStore 3 x9 v96_188 vs_187).bind fun vs_189 =>
  some (.ret, [v47_112.1, x9], vs_189))
  ((aBin .add x20 (.int .i64 1)).bind fun v97_190 =>
  L.loop [1, 2, 3, 9, 18, 19, 20] [8, 9] b_spec_l17Reckon_1 [x1, x2, x3, x9, x18, x19, v97_190] vs_187))
  ((aBin .add x20 (.int .i64 1)).bind fun v97_191 =>
  L.loop [1, 2, 3, 9, 18, 19, 20] [8, 9] b_spec_l17Reckon_1 [x1, x2, x3, x9, x18, x19, v97_191] v47_112.2))
  ((aBin .add x20 (.int .i64 1)).bind fun v97_192 =>
  L.loop [1, 2, 3, 9, 18, 19, 20] [8, 9] b_spec_l17Reckon_1 [x1, x2, x3, x9, x18, x19, v97_192] v47_112.2)))))
  (some ((.exit 0), [.undef, x9], st)) := (lim_loop F _ _ _ _ _).trans (by kernel_rfl)

theorem k_spec_l17Reckon_1_ret (o8 : AV) (o9 : AV) (st : St) : k_spec_l17Reckon_1 (.ret, [o8, o9], st) =
  (((aLoad true 3 st o9).bind fun vr_1 =>
  some (vr_1 :: [])).bind fun vs => some (o8 :: vs)).bind fun vs =>
  (resTup st (retV vs)).bind fun r => some (r, st.n) := by kernel_rfl

theorem k_spec_l17Reckon_1_0 (o8 : AV) (o9 : AV) (st : St) : k_spec_l17Reckon_1 ((.exit 0), [o8, o9], st) =
  (aStore 3 o9 zc_iii st).bind fun vs_4 =>
  (((aLoad true 3 vs_4 o9).bind fun vr_5 =>
  some (vr_5 :: [])).bind fun vs => some ((.int .i64 (-1)) :: vs)).bind fun vs =>
  (resTup vs_4 (retV vs)).bind fun r => some (r, vs_4.n) := by kernel_rfl

noncomputable def f_spec_IsName : IFn := (F i_spec_IsName).getD default

noncomputable def b_spec_IsName_1 : ICode := loopAt f_spec_IsName.code 0

noncomputable def k_spec_IsName_1 : XT × List AV × St → Option (AV × Nat) := resK L f_spec_IsName.code [true, false, true] (callK f_spec_IsName.rs)

theorem call_spec_IsName (a0 : AV) (n : Nat) : L.call i_spec_IsName [a0] n =
  (L.loop [0, 3] [0, 2] b_spec_IsName_1 [a0, (.int .i64 0)] (st0 n)).bind k_spec_IsName_1 := (lim_call F _ _ _).trans (by kernel_rfl)

theorem loop_spec_IsName_1 (x0 : AV) (x3 : AV) (st : St) : L.loop [0, 3] [0, 2] b_spec_IsName_1 [x0, x3] st =
  (aSlen x0).bind fun v7_1 =>
  (aBin .lss x3 v7_1).bind fun v8_2 =>
  cnd v8_2
  ((aSidx x0 x3).bind fun v13_3 =>
  (aBin .geq v13_3 (.int .u8 97)).bind fun v14_4 =>
  cnd v14_4
  ((aSidx x0 x3).bind fun v18_5 =>
  (aBin .leq v18_5 (.int .u8 122)).bind fun v19_6 =>
  (aUn .not v19_6).bind fun v22_7 =>
  cnd v22_7
  ((aBin .eql x3 (.int .i64 0)).bind fun v25_8 =>
  cnd v25_8
  (some (.ret, [x0, (.bool false)], st))
  ((aSidx x0 x3).bind fun v29_9 =>
  (aBin .lss v29_9 (.int .u8 48)).bind fun v30_10 =>
  cnd v30_10
  (some (.ret, [x0, (.bool false)], st))
  ((aSidx x0 x3).bind fun v35_11 =>
  (aBin .gtr v35_11 (.int .u8 57)).bind fun v36_12 =>
  cnd v36_12
  (some (.ret, [x0, (.bool false)], st))
  ((aBin .add x3 (.int .i64 1)).bind fun v10_13 =>
  L.loop [0, 3] [0, 2] b_spec_IsName_1 [x0, v10_13] st))))
  ((aBin .add x3 (.int .i64 1)).bind fun v10_14 =>
  L.loop [0, 3] [0, 2] b_spec_IsName_1 [x0, v10_14] st))
  ((aUn .not (.bool false)).bind fun v22_15 =>
  cnd v22_15
  ((aBin .eql x3 (.int .i64 0)).bind fun v25_16 =>
  cnd v25_16
  (some (.ret, [x0, (.bool false)], st))
  ((aSidx x0 x3).bind fun v29_17 =>
  (aBin .lss v29_17 (.int .u8 48)).bind fun v30_18 =>
  cnd v30_18
  (some (.ret, [x0, (.bool false)], st))
  ((aSidx x0 x3).bind fun v35_19 =>
  (aBin .gtr v35_19 (.int .u8 57)).bind fun v36_20 =>
  cnd v36_20
  (some (.ret, [x0, (.bool false)], st))
  ((aBin .add x3 (.int .i64 1)).bind fun v10_21 =>
  L.loop [0, 3] [0, 2] b_spec_IsName_1 [x0, v10_21] st))))
  ((aBin .add x3 (.int .i64 1)).bind fun v10_22 =>
  L.loop [0, 3] [0, 2] b_spec_IsName_1 [x0, v10_22] st)))
  (some ((.exit 0), [x0, .undef], st)) := (lim_loop F _ _ _ _ _).trans (by kernel_rfl)

theorem k_spec_IsName_1_ret (o0 : AV) (o2 : AV) (st : St) : k_spec_IsName_1 (.ret, [o0, o2], st) =
  (resTup st o2).bind fun r => some (r, st.n) := by kernel_rfl

theorem k_spec_IsName_1_0 (o0 : AV) (o2 : AV) (st : St) : k_spec_IsName_1 ((.exit 0), [o0, o2], st) =
  (aSlen o0).bind fun v40_1 =>
  (clV L i_spec_l01In 0 [v40_1, (.int .i64 1), (.int .i64 8)] st).bind fun v41_2 =>
  (resTup v41_2.2 v41_2.1).bind fun r => some (r, v41_2.2.n) := by kernel_rfl

noncomputable def f_impl_DeadReckoning : IFn := (F i_impl_DeadReckoning).getD default

noncomputable def b_impl_DeadReckoning_1 : ICode := loopAt f_impl_DeadReckoning.code 0

noncomputable def k_impl_DeadReckoning_1 : XT × List AV × St → Option (AV × Nat) := resK L f_impl_DeadReckoning.code [true, true, true, true, true, false] (callK f_impl_DeadReckoning.rs)

theorem call_impl_DeadReckoning (a0 : AV) (n : Nat) : L.call i_impl_DeadReckoning [a0] n =
  (clV L i_impl_IsFactorList 0 [a0] (st0 n)).bind fun v8_1 =>
  (aUn .not v8_1.1).bind fun v9_2 =>
  cnd v9_2
  ((resTup v8_1.2 (.tup [.nils, .nils])).bind fun r => some (r, v8_1.2.n))
  ((clV L i_impl_NamesOf 0 [a0] v8_1.2).bind fun v11_3 =>
  (aLen v11_3.1).bind fun v13_4 =>
  mkMake 3 zc_iii v13_4 v13_4 v11_3.2 fun v14_5 vs_6 =>
  (aLen v11_3.1).bind fun v16_7 =>
  mkMake 1 (.bool false) v16_7 v16_7 vs_6 fun v17_8 vs_9 =>
  (L.loop [0, 4, 5, 6] [2, 3, 5, 6] b_impl_DeadReckoning_1 [a0, v11_3.1, v14_5, v17_8] vs_9).bind k_impl_DeadReckoning_1) := (lim_call F _ _ _).trans (by kernel_rfl)

theorem loop_impl_DeadReckoning_1 (x0 : AV) (x4 : AV) (x5 : AV) (x6 : AV) (st : St) : L.loop [0, 4, 5, 6] [2, 3, 5, 6] b_impl_DeadReckoning_1 [x0, x4, x5, x6] st =
  (L.inl i_impl_poseStep [x0, x4, x5, x6] st).bind fun v22_1 =>
  cnd v22_1.1
  (L.loop [0, 4, 5, 6] [2, 3, 5, 6] b_impl_DeadReckoning_1 [x0, x4, x5, x6] v22_1.2)
  (some ((.exit 0), [.undef, .undef, x5, x6], v22_1.2)) := (lim_loop F _ _ _ _ _).trans (by kernel_rfl)

theorem k_impl_DeadReckoning_1_0 (o2 : AV) (o3 : AV) (o5 : AV) (o6 : AV) (st : St) : k_impl_DeadReckoning_1 ((.exit 0), [o2, o3, o5, o6], st) =
  (resTup st (.tup [o5, o6])).bind fun r => some (r, st.n) := by kernel_rfl

noncomputable def f_impl_inRange : IFn := (F i_impl_inRange).getD default

theorem call_impl_inRange (a0 : AV) (n : Nat) : L.call i_impl_inRange [a0] n =
  (aBin .geq a0 (.int .i64 (-1000000))).bind fun v4_1 =>
  cnd v4_1
  ((aBin .leq a0 (.int .i64 1000000)).bind fun v7_2 =>
  (resTup (st0 n) v7_2).bind fun r => some (r, (st0 n).n))
  ((resTup (st0 n) (.bool false)).bind fun r => some (r, (st0 n).n)) := (lim_call F _ _ _).trans (by kernel_rfl)

noncomputable def f_impl_IsName : IFn := (F i_impl_IsName).getD default

noncomputable def b_impl_IsName_1 : ICode := loopAt f_impl_IsName.code 0

noncomputable def k_impl_IsName_1 : XT × List AV × St → Option (AV × Nat) := resK L f_impl_IsName.code [true, true, false, true] (callK f_impl_IsName.rs)

theorem call_impl_IsName (a0 : AV) (n : Nat) : L.call i_impl_IsName [a0] n =
  (aSlen a0).bind fun v7_1 =>
  (aBin .lss v7_1 (.int .i64 1)).bind fun v8_2 =>
  cnd v8_2
  ((resTup (st0 n) (.bool false)).bind fun r => some (r, (st0 n).n))
  ((aSlen a0).bind fun v11_3 =>
  (aBin .gtr v11_3 (.int .i64 8)).bind fun v12_4 =>
  cnd v12_4
  ((resTup (st0 n) (.bool false)).bind fun r => some (r, (st0 n).n))
  ((L.loop [0, 3] [2] b_impl_IsName_1 [a0, (.int .i64 0)] (st0 n)).bind k_impl_IsName_1)) := (lim_call F _ _ _).trans (by kernel_rfl)

theorem loop_impl_IsName_1 (x0 : AV) (x3 : AV) (st : St) : L.loop [0, 3] [2] b_impl_IsName_1 [x0, x3] st =
  (aSlen x0).bind fun v16_1 =>
  (aBin .lss x3 v16_1).bind fun v17_2 =>
  cnd v17_2
  ((aSidx x0 x3).bind fun v22_3 =>
  (aBin .geq v22_3 (.int .u8 97)).bind fun v23_4 =>
  cnd v23_4
  ((aSidx x0 x3).bind fun v27_5 =>
  (aBin .leq v27_5 (.int .u8 122)).bind fun v28_6 =>
  (aSidx x0 x3).bind fun v32_7 =>
  (aBin .geq v32_7 (.int .u8 48)).bind fun v33_8 =>
  cnd v33_8
  ((aSidx x0 x3).bind fun v37_9 =>
  (aBin .leq v37_9 (.int .u8 57)).bind fun v38_10 =>
  (aUn .not v28_6).bind fun v41_11 =>
  cnd v41_11
  ((aBin .eql x3 (.int .i64 0)).bind fun v44_12 =>
  cnd v44_12
  (some (.ret, [(.bool false)], st))
  ((aUn .not v38_10).bind fun v47_13 =>
  cnd v47_13
  (some (.ret, [(.bool false)], st))
  ((aBin .add x3 (.int .i64 1)).bind fun v19_14 =>
  L.loop [0, 3] [2] b_impl_IsName_1 [x0, v19_14] st)))
  ((aBin .add x3 (.int .i64 1)).bind fun v19_15 =>
  L.loop [0, 3] [2] b_impl_IsName_1 [x0, v19_15] st))
  ((aUn .not v28_6).bind fun v41_16 =>
  cnd v41_16
  ((aBin .eql x3 (.int .i64 0)).bind fun v44_17 =>
  cnd v44_17
  (some (.ret, [(.bool false)], st))
  ((aUn .not (.bool false)).bind fun v47_18 =>
  cnd v47_18
  (some (.ret, [(.bool false)], st))
  ((aBin .add x3 (.int .i64 1)).bind fun v19_19 =>
  L.loop [0, 3] [2] b_impl_IsName_1 [x0, v19_19] st)))
  ((aBin .add x3 (.int .i64 1)).bind fun v19_20 =>
  L.loop [0, 3] [2] b_impl_IsName_1 [x0, v19_20] st)))
  ((aSidx x0 x3).bind fun v32_21 =>
  (aBin .geq v32_21 (.int .u8 48)).bind fun v33_22 =>
  cnd v33_22
  ((aSidx x0 x3).bind fun v37_23 =>
  (aBin .leq v37_23 (.int .u8 57)).bind fun v38_24 =>
  (aUn .not (.bool false)).bind fun v41_25 =>
  cnd v41_25
  ((aBin .eql x3 (.int .i64 0)).bind fun v44_26 =>
  cnd v44_26
  (some (.ret, [(.bool false)], st))
  ((aUn .not v38_24).bind fun v47_27 =>
  cnd v47_27
  (some (.ret, [(.bool false)], st))
  ((aBin .add x3 (.int .i64 1)).bind fun v19_28 =>
  L.loop [0, 3] [2] b_impl_IsName_1 [x0, v19_28] st)))
  ((aBin .add x3 (.int .i64 1)).bind fun v19_29 =>
  L.loop [0, 3] [2] b_impl_IsName_1 [x0, v19_29] st))
  ((aUn .not (.bool false)).bind fun v41_30 =>
  cnd v41_30
  ((aBin .eql x3 (.int .i64 0)).bind fun v44_31 =>
  cnd v44_31
  (some (.ret, [(.bool false)], st))
  ((aUn .not (.bool false)).bind fun v47_32 =>
  cnd v47_32
  (some (.ret, [(.bool false)], st))
  ((aBin .add x3 (.int .i64 1)).bind fun v19_33 =>
  L.loop [0, 3] [2] b_impl_IsName_1 [x0, v19_33] st)))
  ((aBin .add x3 (.int .i64 1)).bind fun v19_34 =>
  L.loop [0, 3] [2] b_impl_IsName_1 [x0, v19_34] st))))
  (some ((.exit 0), [.undef], st)) := (lim_loop F _ _ _ _ _).trans (by kernel_rfl)

theorem k_impl_IsName_1_ret (o2 : AV) (st : St) : k_impl_IsName_1 (.ret, [o2], st) =
  (resTup st o2).bind fun r => some (r, st.n) := by kernel_rfl

theorem k_impl_IsName_1_0 (o2 : AV) (st : St) : k_impl_IsName_1 ((.exit 0), [o2], st) =
  (resTup st (.bool true)).bind fun r => some (r, st.n) := by kernel_rfl

noncomputable def f_spec_RotateXY : IFn := (F i_spec_RotateXY).getD default

noncomputable def b_spec_RotateXY_1 : ICode := loopAt f_spec_RotateXY.code 0

noncomputable def k_spec_RotateXY_1 : XT × List AV × St → Option (AV × Nat) := resK L f_spec_RotateXY.code [true, true, false, true] (callK f_spec_RotateXY.rs)

theorem call_spec_RotateXY (a0 : AV) (a1 : AV) (a2 : AV) (n : Nat) : L.call i_spec_RotateXY [a0, a1, a2] n =
  (mkBuild [(0, 1, a2), (1, 1, a0), (2, 1, a1)] zc_iii.cells).bind fun v12_1 =>
  (clV L i_spec_IsValidPose 0 [(.agg v12_1)] (st0 n)).bind fun v13_2 =>
  (aUn .not v13_2.1).bind fun v14_3 =>
  cnd v14_3
  ((resTup v13_2.2 (.tup [(.int .i64 0), (.int .i64 0)])).bind fun r => some (r, v13_2.2.n))
  ((L.loop [0, 1, 2, 8] [0, 1, 6, 7] b_spec_RotateXY_1 [a0, a1, a2, (.int .i64 0)] v13_2.2).bind k_spec_RotateXY_1) := (lim_call F _ _ _).trans (by kernel_rfl)

theorem loop_spec_RotateXY_1 (x0 : AV) (x1 : AV) (x2 : AV) (x8 : AV) (st : St) : L.loop [0, 1, 2, 8] [0, 1, 6, 7] b_spec_RotateXY_1 [x0, x1, x2, x8] st =
  (aBin .lss x8 x2).bind fun v17_1 =>
  cnd v17_1
  ((aUn .neg x1).bind fun v21_2 =>
  (aBin .add x8 (.int .i64 1)).bind fun v19_3 =>
  L.loop [0, 1, 2, 8] [0, 1, 6, 7] b_spec_RotateXY_1 [v21_2, x0, x2, v19_3] st)
  (some ((.exit 0), [x0, x1, .undef, .undef], st)) := (lim_loop F _ _ _ _ _).trans (by kernel_rfl)

theorem k_spec_RotateXY_1_0 (o0 : AV) (o1 : AV) (o6 : AV) (o7 : AV) (st : St) : k_spec_RotateXY_1 ((.exit 0), [o0, o1, o6, o7], st) =
  (resTup st (.tup [o0, o1])).bind fun r => some (r, st.n) := by kernel_rfl

noncomputable def f_impl_RotateXY : IFn := (F i_impl_RotateXY).getD default

noncomputable def b_impl_RotateXY_1 : ICode := loopAt f_impl_RotateXY.code 0

noncomputable def k_impl_RotateXY_1 : XT × List AV × St → Option (AV × Nat) := resK L f_impl_RotateXY.code [true, true, false, true] (callK f_impl_RotateXY.rs)

theorem call_impl_RotateXY (a0 : AV) (a1 : AV) (a2 : AV) (n : Nat) : L.call i_impl_RotateXY [a0, a1, a2] n =
  (aBin .lss a2 (.int .i64 0)).bind fun v10_1 =>
  cnd v10_1
  ((resTup (st0 n) (.tup [(.int .i64 0), (.int .i64 0)])).bind fun r => some (r, (st0 n).n))
  ((aBin .gtr a2 (.int .i64 3)).bind fun v13_2 =>
  cnd v13_2
  ((resTup (st0 n) (.tup [(.int .i64 0), (.int .i64 0)])).bind fun r => some (r, (st0 n).n))
  ((clV L i_impl_inRange 0 [a0] (st0 n)).bind fun v17_3 =>
  (aUn .not v17_3.1).bind fun v18_4 =>
  cnd v18_4
  ((resTup v17_3.2 (.tup [(.int .i64 0), (.int .i64 0)])).bind fun r => some (r, v17_3.2.n))
  ((clV L i_impl_inRange 0 [a1] v17_3.2).bind fun v22_5 =>
  (aUn .not v22_5.1).bind fun v23_6 =>
  cnd v23_6
  ((resTup v22_5.2 (.tup [(.int .i64 0), (.int .i64 0)])).bind fun r => some (r, v22_5.2.n))
  ((L.loop [0, 1, 2, 8] [0, 1, 6, 7] b_impl_RotateXY_1 [a0, a1, a2, (.int .i64 0)] v22_5.2).bind k_impl_RotateXY_1)))) := (lim_call F _ _ _).trans (by kernel_rfl)

theorem loop_impl_RotateXY_1 (x0 : AV) (x1 : AV) (x2 : AV) (x8 : AV) (st : St) : L.loop [0, 1, 2, 8] [0, 1, 6, 7] b_impl_RotateXY_1 [x0, x1, x2, x8] st =
  (aBin .lss x8 x2).bind fun v27_1 =>
  cnd v27_1
  ((aUn .neg x1).bind fun v31_2 =>
  (aBin .add x8 (.int .i64 1)).bind fun v29_3 =>
  L.loop [0, 1, 2, 8] [0, 1, 6, 7] b_impl_RotateXY_1 [v31_2, x0, x2, v29_3] st)
  (some ((.exit 0), [x0, x1, .undef, .undef], st)) := (lim_loop F _ _ _ _ _).trans (by kernel_rfl)

theorem k_impl_RotateXY_1_0 (o0 : AV) (o1 : AV) (o6 : AV) (o7 : AV) (st : St) : k_impl_RotateXY_1 ((.exit 0), [o0, o1, o6, o7], st) =
  (resTup st (.tup [o0, o1])).bind fun r => some (r, st.n) := by kernel_rfl

noncomputable def f_impl_poseStep : IFn := (F i_impl_poseStep).getD default

noncomputable def b_impl_poseStep_1 : ICode := loopAt f_impl_poseStep.code 0

noncomputable def k_impl_poseStep_1 : XT × List AV × St → Option (AV × Nat) := resK L f_impl_poseStep.code [true, false, true] (callK f_impl_poseStep.rs)

theorem call_impl_poseStep (a0 : AV) (a1 : AV) (a2 : AV) (a3 : AV) (n : Nat) : L.call i_impl_poseStep [a0, a1, a2, a3] n =
  (aLen a0).bind fun v18_1 =>
  (L.loop [1, 2, 3, 17, 18, 19] [8] b_impl_poseStep_1 [a1, a2, a3, a0, v18_1, (.int .i64 0)] (st0 n)).bind k_impl_poseStep_1 := (lim_call F _ _ _).trans (by kernel_rfl)

theorem loop_impl_poseStep_1 (x1 : AV) (x2 : AV) (x3 : AV) (x17 : AV) (x18 : AV) (x19 : AV) (st : St) : L.loop [1, 2, 3, 17, 18, 19] [8] b_impl_poseStep_1 [x1, x2, x3, x17, x18, x19] st =
  (aBin .lss x19 x18).bind fun v20_1 =>
  cnd v20_1
  ((aIaddr 8 x17 x19).bind fun v21_2 =>
  (aLoad true 8 st v21_2).bind fun v22_3 =>
  mkNew zc_iissiiii st fun v10_4 vs_5 =>
  (aStore 8 v10_4 v22_3 vs_5).bind fun vs_6 =>
  (aFaddr 2 v10_4).bind fun v24_7 =>
  (aLoad false 1 vs_6 v24_7).bind fun v25_8 =>
  (clV L i_impl_nameIndex 0 [x1, v25_8] vs_6).bind fun v26_9 =>
  (aFaddr 3 v10_4).bind fun v28_10 =>
  (aLoad false 1 v26_9.2 v28_10).bind fun v29_11 =>
  (clV L i_impl_nameIndex 0 [x1, v29_11] v26_9.2).bind fun v30_12 =>
  (aFaddr 1 v10_4).bind fun v31_13 =>
  (aLoad false 1 v30_12.2 v31_13).bind fun v32_14 =>
  (aBin .eql v32_14 (.int .i64 1)).bind fun v33_15 =>
  cnd v33_15
  ((aIaddr 1 x3 v30_12.1).bind fun v37_16 =>
  (aLoad false 1 v30_12.2 v37_16).bind fun v38_17 =>
  (aUn .not v38_17).bind fun v39_18 =>
  cnd v39_18
  ((aFaddr 4 v10_4).bind fun v45_19 =>
  (aLoad true 3 v30_12.2 v45_19).bind fun v46_20 =>
  (aIaddr 3 x2 v30_12.1).bind fun v47_21 =>
  (aStore 3 v47_21 v46_20 v30_12.2).bind fun vs_22 =>
  (aIaddr 1 x3 v30_12.1).bind fun v48_23 =>
  (aStore 1 v48_23 (.bool true) vs_22).bind fun vs_24 =>
  some (.ret, [(.bool true)], vs_24))
  ((aFaddr 1 v10_4).bind fun v49_25 =>
  (aLoad false 1 v30_12.2 v49_25).bind fun v50_26 =>
  (aBin .eql v50_26 (.int .i64 2)).bind fun v51_27 =>
  cnd v51_27
  ((aIaddr 1 x3 v26_9.1).bind fun v55_28 =>
  (aLoad false 1 v30_12.2 v55_28).bind fun v56_29 =>
  cnd v56_29
  ((aIaddr 1 x3 v30_12.1).bind fun v61_30 =>
  (aLoad false 1 v30_12.2 v61_30).bind fun v62_31 =>
  (aUn .not v62_31).bind fun v63_32 =>
  cnd v63_32
  ((aIaddr 3 x2 v26_9.1).bind fun v68_33 =>
  (aLoad true 3 v30_12.2 v68_33).bind fun v69_34 =>
  (aFaddr 4 v10_4).bind fun v70_35 =>
  (aLoad true 3 v30_12.2 v70_35).bind fun v71_36 =>
  (clV L i_impl_composeOk 0 [v69_34, v71_36] v30_12.2).bind fun v72_37 =>
  (aExtr 0 v72_37.1).bind fun v73_38 =>
  (aExtr 1 v72_37.1).bind fun v74_39 =>
  mkNew zc_iii v72_37.2 fun v13_40 vs_41 =>
  (aStore 3 v13_40 v73_38 vs_41).bind fun vs_42 =>
  cnd v74_39
  ((aLoad true 3 vs_42 v13_40).bind fun v80_43 =>
  (aIaddr 3 x2 v30_12.1).bind fun v81_44 =>
  (aStore 3 v81_44 v80_43 vs_42).bind fun vs_45 =>
  (aIaddr 1 x3 v30_12.1).bind fun v82_46 =>
  (aStore 1 v82_46 (.bool true) vs_45).bind fun vs_47 =>
  some (.ret, [(.bool true)], vs_47))
  ((aFaddr 1 v10_4).bind fun v83_48 =>
  (aLoad false 1 vs_42 v83_48).bind fun v84_49 =>
  (aBin .eql v84_49 (.int .i64 2)).bind fun v85_50 =>
  cnd v85_50
  ((aIaddr 1 x3 v26_9.1).bind fun v89_51 =>
  (aLoad false 1 vs_42 v89_51).bind fun v90_52 =>
  (aUn .not v90_52).bind fun v91_53 =>
  cnd v91_53
  ((aIaddr 1 x3 v30_12.1).bind fun v96_54 =>
  (aLoad false 1 vs_42 v96_54).bind fun v97_55 =>
  cnd v97_55
  ((aIaddr 3 x2 v30_12.1).bind fun v102_56 =>
  (aLoad true 3 vs_42 v102_56).bind fun v103_57 =>
  (aFaddr 4 v10_4).bind fun v104_58 =>
  (aLoad true 3 vs_42 v104_58).bind fun v105_59 =>
  (clV L i_impl_Inverse 0 [v105_59] vs_42).bind fun v106_60 =>
  (clV L i_impl_composeOk 0 [v103_57, v106_60.1] v106_60.2).bind fun v107_61 =>
  (aExtr 0 v107_61.1).bind fun v108_62 =>
  (aExtr 1 v107_61.1).bind fun v109_63 =>
  mkNew zc_iii v107_61.2 fun v15_64 vs_65 =>
  (aStore 3 v15_64 v108_62 vs_65).bind fun vs_66 =>
  cnd v109_63
  ((aLoad true 3 vs_66 v15_64).bind fun v115_67 =>
  (aIaddr 3 x2 v26_9.1).bind fun v116_68 =>
  (aStore 3 v116_68 v115_67 vs_66).bind fun vs_69 =>
  (aIaddr 1 x3 v26_9.1).bind fun v117_70 =>
  (aStore 1 v117_70 (.bool true) vs_69).bind fun vs_71 =>
  some (.ret, [(.bool true)], vs_71))
  ((aBin .add x19 (.int .i64 1)).bind fun v118_72 =>
  L.loop [1, 2, 3, 17, 18, 19] [8] b_impl_poseStep_1 [x1, x2, x3, x17, x18, v118_72] vs_66))
  ((aBin .add x19 (.int .i64 1)).bind fun v118_73 =>
  L.loop [1, 2, 3, 17, 18, 19] [8] b_impl_poseStep_1 [x1, x2, x3, x17, x18, v118_73] vs_42))
  ((aBin .add x19 (.int .i64 1)).bind fun v118_74 =>
  L.loop [1, 2, 3, 17, 18, 19] [8] b_impl_poseStep_1 [x1, x2, x3, x17, x18, v118_74] vs_42))
  ((aBin .add x19 (.int .i64 1)).bind fun v118_75 =>
  L.loop [1, 2, 3, 17, 18, 19] [8] b_impl_poseStep_1 [x1, x2, x3, x17, x18, v118_75] vs_42)))
  ((aFaddr 1 v10_4).bind fun v83_76 =>
  (aLoad false 1 v30_12.2 v83_76).bind fun v84_77 =>
  (aBin .eql v84_77 (.int .i64 2)).bind fun v85_78 =>
  cnd v85_78
  ((aIaddr 1 x3 v26_9.1).bind fun v89_79 =>
  (aLoad false 1 v30_12.2 v89_79).bind fun v90_80 =>
  (aUn .not v90_80).bind fun v91_81 =>
  cnd v91_81
  ((aIaddr 1 x3 v30_12.1).bind fun v96_82 =>
  (aLoad false 1 v30_12.2 v96_82).bind fun v97_83 =>
  cnd v97_83
  ((aIaddr 3 x2 v30_12.1).bind fun v102_84 =>
  (aLoad true 3 v30_12.2 v102_84).bind fun v103_85 =>
  (aFaddr 4 v10_4).bind fun v104_86 =>
  (aLoad true 3 v30_12.2 v104_86).bind fun v105_87 =>
  (clV L i_impl_Inverse 0 [v105_87] v30_12.2).bind fun v106_88 =>
  (clV L i_impl_composeOk 0 [v103_85, v106_88.1] v106_88.2).bind fun v107_89 =>
  (aExtr 0 v107_89.1).bind fun v108_90 =>
  (aExtr 1 v107_89.1).bind fun v109_91 =>
  mkNew zc_iii v107_89.2 fun v15_92 vs_93 =>
  (aStore 3 v15_92 v108_90 vs_93).bind fun vs_94 =>
  cnd v109_91
  ((aLoad true 3 vs_94 v15_92).bind fun v115_95 =>
  (aIaddr 3 x2 v26_9.1).bind fun v116_96 =>
  (aStore 3 v116_96 v115_95 vs_94).bind fun vs_97 =>
  (aIaddr 1 x3 v26_9.1).bind fun v117_98 =>
  (aStore 1 v117_98 (.bool true) vs_97).bind fun vs_99 =>
  some (.ret, [(.bool true)], vs_99))
  ((aBin .add x19 (.int .i64 1)).bind fun v118_100 =>
  L.loop [1, 2, 3, 17, 18, 19] [8] b_impl_poseStep_1 [x1, x2, x3, x17, x18, v118_100] vs_94))
  ((aBin .add x19 (.int .i64 1)).bind fun v118_101 =>
  L.loop [1, 2, 3, 17, 18, 19] [8] b_impl_poseStep_1 [x1, x2, x3, x17, x18, v118_101] v30_12.2))
  ((aBin .add x19 (.int .i64 1)).bind fun v118_102 =>
  L.loop [1, 2, 3, 17, 18, 19] [8] b_impl_poseStep_1 [x1, x2, x3, x17, x18, v118_102] v30_12.2))
  ((aBin .add x19 (.int .i64 1)).bind fun v118_103 =>
  L.loop [1, 2, 3, 17, 18, 19] [8] b_impl_poseStep_1 [x1, x2, x3, x17, x18, v118_103] v30_12.2)))
  ((aFaddr 1 v10_4).bind fun v83_104 =>
  (aLoad false 1 v30_12.2 v83_104).bind fun v84_105 =>
  (aBin .eql v84_105 (.int .i64 2)).bind fun v85_106 =>
  cnd v85_106
  ((aIaddr 1 x3 v26_9.1).bind fun v89_107 =>
  (aLoad false 1 v30_12.2 v89_107).bind fun v90_108 =>
  (aUn .not v90_108).bind fun v91_109 =>
  cnd v91_109
  ((aIaddr 1 x3 v30_12.1).bind fun v96_110 =>
  (aLoad false 1 v30_12.2 v96_110).bind fun v97_111 =>
  cnd v97_111
  ((aIaddr 3 x2 v30_12.1).bind fun v102_112 =>
  (aLoad true 3 v30_12.2 v102_112).bind fun v103_113 =>
  (aFaddr 4 v10_4).bind fun v104_114 =>
  (aLoad true 3 v30_12.2 v104_114).bind fun v105_115 =>
  (clV L i_impl_Inverse 0 [v105_115] v30_12.2).bind fun v106_116 =>
  (clV L i_impl_composeOk 0 [v103_113, v106_116.1] v106_116.2).bind fun v107_117 =>
  (aExtr 0 v107_117.1).bind fun v108_118 =>
  (aExtr 1 v107_117.1).bind fun v109_119 =>
  mkNew zc_iii v107_117.2 fun v15_120 vs_121 =>
  (aStore 3 v15_120 v108_118 vs_121).bind fun vs_122 =>
  cnd v109_119
  ((aLoad true 3 vs_122 v15_120).bind fun v115_123 =>
  (aIaddr 3 x2 v26_9.1).bind fun v116_124 =>
  (aStore 3 v116_124 v115_123 vs_122).bind fun vs_125 =>
  (aIaddr 1 x3 v26_9.1).bind fun v117_126 =>
  (aStore 1 v117_126 (.bool true) vs_125).bind fun vs_127 =>
  some (.ret, [(.bool true)], vs_127))
  ((aBin .add x19 (.int .i64 1)).bind fun v118_128 =>
  L.loop [1, 2, 3, 17, 18, 19] [8] b_impl_poseStep_1 [x1, x2, x3, x17, x18, v118_128] vs_122))
  ((aBin .add x19 (.int .i64 1)).bind fun v118_129 =>
  L.loop [1, 2, 3, 17, 18, 19] [8] b_impl_poseStep_1 [x1, x2, x3, x17, x18, v118_129] v30_12.2))
  ((aBin .add x19 (.int .i64 1)).bind fun v118_130 =>
  L.loop [1, 2, 3, 17, 18, 19] [8] b_impl_poseStep_1 [x1, x2, x3, x17, x18, v118_130] v30_12.2))
  ((aBin .add x19 (.int .i64 1)).bind fun v118_131 =>
  L.loop [1, 2, 3, 17, 18, 19] [8] b_impl_poseStep_1 [x1, x2, x3, x17, x18, v118_131] v30_12.2)))
  ((aFaddr 1 v10_4).bind fun v83_132 =>
  (aLoad false 1 v30_12.2 v83_132).bind fun v84_133 =>
  (aBin .eql v84_133 (.int .i64 2)).bind fun v85_134 =>
  cnd v85_134
  ((aIaddr 1 x3 v26_9.1).bind fun v89_135 =>
  (aLoad false 1 v30_12.2 v89_135).bind fun v90_136 =>
  (aUn .not v90_136).bind fun v91_137 =>
  cnd v91_137
  ((aIaddr 1 x3 v30_12.1).bind fun v96_138 =>
  (aLoad false 1 v30_12.2 v96_138).bind fun v97_139 =>
  cnd v97_139
  ((aIaddr 3 x2 v30_12.1).bind fun v102_140 =>
  (aLoad true 3 v30_12.2 v102_140).bind fun v103_141 =>
  (aFaddr 4 v10_4).bind fun v104_142 =>
  (aLoad true 3 v30_12.2 v104_142).bind fun v105_143 =>
  (clV L i_impl_Inverse 0 [v105_143] v30_12.2).bind fun v106_144 =>
  (clV L i_impl_composeOk 0 [v103_141, v106_144.1] v106_144.2).bind fun v107_145 =>
  (aExtr 0 v107_145.1).bind fun v108_146 =>
  (aExtr 1 v107_145.1).bind fun v109_147 =>
  mkNew zc_iii v107_145.2 fun v15_148 vs_149 =>
  (aStore 3 v15_148 v108_146 vs_149).bind fun vs_150 =>
  cnd v109_147
  ((aLoad true 3 vs_150 v15_148).bind fun v115_151 =>
  (aIaddr 3 x2 v26_9.1).bind fun v116_152 =>
  (aStore 3 v116_152 v115_151 vs_150).bind fun vs_153 =>
  (aIaddr 1 x3 v26_9.1).bind fun v117_154 =>
  (aStore 1 v117_154 (.bool true) vs_153).bind fun vs_155 =>
  some (.ret, [(.bool true)], vs_155))
  ((aBin .add x19 (.int .i64 1)).bind fun v118_156 =>
  L.loop [1, 2, 3, 17, 18, 19] [8] b_impl_poseStep_1 [x1, x2, x3, x17, x18, v118_156] vs_150))
  ((aBin .add x19 (.int .i64 1)).bind fun v118_157 =>
  L.loop [1, 2, 3, 17, 18, 19] [8] b_impl_poseStep_1 [x1, x2, x3, x17, x18, v118_157] v30_12.2))
  ((aBin .add x19 (.int .i64 1)).bind fun v118_158 =>
  L.loop [1, 2, 3, 17, 18, 19] [8] b_impl_poseStep_1 [x1, x2, x3, x17, x18, v118_158] v30_12.2))
  ((aBin .add x19 (.int .i64 1)).bind fun v118_159 =>
  L.loop [1, 2, 3, 17, 18, 19] [8] b_impl_poseStep_1 [x1, x2, x3, x17, x18, v118_159] v30_12.2))))
  ((aFaddr 1 v10_4).bind fun v49_160 =>
  (aLoad false 1 v30_12.2 v49_160).bind fun v50_161 =>
  (aBin .eql v50_161 (.int .i64 2)).bind fun v51_162 =>
  cnd v51_162
  ((aIaddr 1 x3 v26_9.1).bind fun v55_163 =>
  (aLoad false 1 v30_12.2 v55_163).bind fun v56_164 =>
  cnd v56_164
  ((aIaddr 1 x3 v30_12.1).bind fun v61_165 =>
  (aLoad false 1 v30_12.2 v61_165).bind fun v62_166 =>
  (aUn .not v62_166).bind fun v63_167 =>
  cnd v63_167
  ((aIaddr 3 x2 v26_9.1).bind fun v68_168 =>
  (aLoad true 3 v30_12.2 v68_168).bind fun v69_169 =>
  (aFaddr 4 v10_4).bind fun v70_170 =>
  (aLoad true 3 v30_12.2 v70_170).bind fun v71_171 =>
  (clV L i_impl_composeOk 0 [v69_169, v71_171] v30_12.2).bind fun v72_172 =>
  (aExtr 0 v72_172.1).bind fun v73_173 =>
  (aExtr 1 v72_172.1).bind fun v74_174 =>
  mkNew zc_iii v72_172.2 fun v13_175 vs_176 =>
  (aStore 3 v13_175 v73_173 vs_176).bind fun vs_177 =>
  cnd v74_174
  ((aLoad true 3 vs_177 v13_175).bind fun v80_178 =>
  (aIaddr 3 x2 v30_12.1).bind fun v81_179 =>
  (aStore 3 v81_179 v80_178 vs_177).bind fun vs_180 =>
  (aIaddr 1 x3 v30_12.1).bind fun v82_181 =>
  (aStore 1 v82_181 (.bool true) vs_180).bind fun vs_182 =>
  some (.ret, [(.bool true)], vs_182))
  ((aFaddr 1 v10_4).bind fun v83_183 =>
  (aLoad false 1 vs_177 v83_183).bind fun v84_184 =>
  (aBin .eql v84_184 (.int .i64 2)).bind fun v85_185 =>
  cnd v85_185
  ((aIaddr 1 x3 v26_9.1).bind fun v89_186 =>
  (aLoad false 1 vs_177 v89_186).bind fun v90_187 =>
  (aUn .not v90_187).bind fun v91_188 =>
  cnd v91_188
  ((aIaddr 1 x3 v30_12.1).bind fun v96_189 =>
  (aLoad false 1 vs_177 v96_189).bind fun v97_190 =>
  cnd v97_190
  ((aIaddr 3 x2 v30_12.1).bind fun v102_191 =>
  (aLoad true 3 vs_177 v102_191).bind fun v103_192 =>
  (aFaddr 4 v10_4).bind fun v104_193 =>
  (aLoad true 3 vs_177 v104_193).bind fun v105_194 =>
  (clV L i_impl_Inverse 0 [v105_194] vs_177).bind fun v106_195 =>
  (clV L i_impl_composeOk 0 [v103_192, v106_195.1] v106_195.2).bind fun v107_196 =>
  (aExtr 0 v107_196.1).bind fun v108_197 =>
  (aExtr 1 v107_196.1).bind fun v109_198 =>
  mkNew zc_iii v107_196.2 fun v15_199 vs_200 =>
  (aStore 3 v15_199 v108_197 vs_200).bind fun vs_201 =>
  cnd v109_198
  ((aLoad true 3 vs_201 v15_199).bind fun v115_202 =>
  (aIaddr 3 x2 v26_9.1).bind fun v116_203 =>
  (aStore 3 v116_203 v115_202 vs_201).bind fun vs_204 =>
  (aIaddr 1 x3 v26_9.1).bind fun v117_205 =>
  (aStore 1 v117_205 (.bool true) vs_204).bind fun vs_206 =>
  some (.ret, [(.bool true)], vs_206))
  ((aBin .add x19 (.int .i64 1)).bind fun v118_207 =>
  L.loop [1, 2, 3, 17, 18, 19] [8] b_impl_poseStep_1 [x1, x2, x3, x17, x18, v118_207] vs_201))
  ((aBin .add x19 (.int .i64 1)).bind fun v118_208 =>
  L.loop [1, 2, 3, 17, 18, 19] [8] b_impl_poseStep_1 [x1, x2, x3, x17, x18, v118_208] vs_177))
  ((aBin .add x19 (.int .i64 1)).bind fun v118_209 =>
  L.loop [1, 2, 3, 17, 18, 19] [8] b_impl_poseStep_1 [x1, x2, x3, x17, x18, v118_209] vs_177))
  ((aBin .add x19 (.int .i64 1)).bind fun v118_210 =>
  L.loop [1, 2, 3, 17, 18, 19] [8] b_impl_poseStep_1 [x1, x2, x3, x17, x18, v118_210] vs_177)))
  ((aFaddr 1 v10_4).bind fun v83_211 =>
  (aLoad false 1 v30_12.2 v83_211).bind fun v84_212 =>
  (aBin .eql v84_212 (.int .i64 2)).bind fun v85_213 =>
  cnd v85_213
  ((aIaddr 1 x3 v26_9.1).bind fun v89_214 =>
  (aLoad false 1 v30_12.2 v89_214).bind fun v90_215 =>
  (aUn .not v90_215).bind fun v91_216 =>
  cnd v91_216
  ((aIaddr 1 x3 v30_12.1).bind fun v96_217 =>
  (aLoad false 1 v30_12.2 v96_217).bind fun v97_218 =>
  cnd v97_218
  ((aIaddr 3 x2 v30_12.1).bind fun v102_219 =>
  (aLoad true 3 v30_12.2 v102_219).bind fun v103_220 =>
  (aFaddr 4 v10_4).bind fun v104_221 =>
  (aLoad true 3 v30_12.2 v104_221).bind fun v105_222 =>
  (clV L i_impl_Inverse 0 [v105_222] v30_12.2).bind fun v106_223 =>
  (clV L i_impl_composeOk 0 [v103_220, v106_223.1] v106_223.2).bind fun v107_224 =>
  (aExtr 0 v107_224.1).bind fun v108_225 =>
  (aExtr 1 v107_224.1).bind fun v109_226 =>
  mkNew zc_iii v107_224.2 fun v15_227 vs_228 =>
  (aStore 3 v15_227 v108_225 vs_228).bind fun vs_229 =>
  cnd v109_226
  ((aLoad true 3 vs_229 v15_227).bind fun v115_230 =>
  (aIaddr 3 x2 v26_9.1).bind fun v116_231 =>
  (aStore 3 v116_231 v115_230 vs_229).bind fun vs_232 =>
  (aIaddr 1 x3 v26_9.1).bind fun v117_233 =>
  (aStore 1 v117_233 (.bool true) vs_232).bind fun vs_234 =>
  some (.ret, [(.bool true)], vs_234))
  ((aBin .add x19 (.int .i64 1)).bind fun v118_235 =>
  L.loop [1, 2, 3, 17, 18, 19] [8] b_impl_poseStep_1 [x1, x2, x3, x17, x18, v118_235] vs_229))
  ((aBin .add x19 (.int .i64 1)).bind fun v118_236 =>
  L.loop [1, 2, 3, 17, 18, 19] [8] b_impl_poseStep_1 [x1, x2, x3, x17, x18, v118_236] v30_12.2))
  ((aBin .add x19 (.int .i64 1)).bind fun v118_237 =>
  L.loop [1, 2, 3, 17, 18, 19] [8] b_impl_poseStep_1 [x1, x2, x3, x17, x18, v118_237] v30_12.2))
  ((aBin .add x19 (.int .i64 1)).bind fun v118_238 =>
  L.loop [1, 2, 3, 17, 18, 19] [8] b_impl_poseStep_1 [x1, x2, x3, x17, x18, v118_238] v30_12.2)))
  ((aFaddr 1 v10_4).bind fun v83_239 =>
  (aLoad false 1 v30_12.2 v83_239).bind fun v84_240 =>
  (aBin .eql v84_240 (.int .i64 2)).bind fun v85_241 =>
  cnd v85_241
  ((aIaddr 1 x3 v26_9.1).bind fun v89_242 =>
  (aLoad false 1 v30_12.2 v89_242).bind fun v90_243 =>
  (aUn .not v90_243).bind fun v91_244 =>
  cnd v91_244
  ((aIaddr 1 x3 v30_12.1).bind fun v96_245 =>
  (aLoad false 1 v30_12.2 v96_245).bind fun v97_246 =>
  cnd v97_246
  ((aIaddr 3 x2 v30_12.1).bind fun v102_247 =>
  (aLoad true 3 v30_12.2 v102_247).bind fun v103_248 =>
  (aFaddr 4 v10_4).bind fun v104_249 =>
  (aLoad true 3 v30_12.2 v104_249).bind fun v105_250 =>
  (clV L i_impl_Inverse 0 [v105_250] v30_12.2).bind fun v106_251 =>
  (clV L i_impl_composeOk 0 [v103_248, v106_251.1] v106_251.2).bind fun v107_252 =>
  (aExtr 0 v107_252.1).bind fun v108_253 =>
  (aExtr 1 v107_252.1).bind fun v109_254 =>
  mkNew zc_iii v107_252.2 fun v15_255 vs_256 =>
  (aStore 3 v15_255 v108_253 vs_256).bind fun vs_257 =>
  cnd v109_254
  ((aLoad true 3 vs_257 v15_255).bind fun v115_258 =>
  (aIaddr 3 x2 v26_9.1).bind fun v116_259 =>
  (aStore 3 v116_259 v115_258 vs_257).bind fun vs_260 =>
  (aIaddr 1 x3 v26_9.1).bind fun v117_261 =>
  (aStore 1 v117_261 (.bool true) vs_260).bind fun vs_262 =>
  some (.ret, [(.bool true)], vs_262))
  ((aBin .add x19 (.int .i64 1)).bind fun v118_263 =>
  L.loop [1, 2, 3, 17, 18, 19] [8] b_impl_poseStep_1 [x1, x2, x3, x17, x18, v118_263] vs_257))
  ((aBin .add x19 (.int .i64 1)).bind fun v118_264 =>
  L.loop [1, 2, 3, 17, 18, 19] [8] b_impl_poseStep_1 [x1, x2, x3, x17, x18, v118_264] v30_12.2))
  ((aBin .add x19 (.int .i64 1)).bind fun v118_265 =>
  L.loop [1, 2, 3, 17, 18, 19] [8] b_impl_poseStep_1 [x1, x2, x3, x17, x18, v118_265] v30_12.2))
  ((aBin .add x19 (.int .i64 1)).bind fun v118_266 =>
  L.loop [1, 2, 3, 17, 18, 19] [8] b_impl_poseStep_1 [x1, x2, x3, x17, x18, v118_266] v30_12.2)))
  ((aFaddr 1 v10_4).bind fun v83_267 =>
  (aLoad false 1 v30_12.2 v83_267).bind fun v84_268 =>
  (aBin .eql v84_268 (.int .i64 2)).bind fun v85_269 =>
  cnd v85_269
  ((aIaddr 1 x3 v26_9.1).bind fun v89_270 =>
  (aLoad false 1 v30_12.2 v89_270).bind fun v90_271 =>
  (aUn .not v90_271).bind fun v91_272 =>
  cnd v91_272
  ((aIaddr 1 x3 v30_12.1).bind fun v96_273 =>
  (aLoad false 1 v30_12.2 v96_273).bind fun v97_274 =>
  cnd v97_274
  ((aIaddr 3 x2 v30_12.1).bind fun v102_275 =>
  (aLoad true 3 v30_12.2 v102_275).bind fun v103_276 =>
  (aFaddr 4 v10_4).bind fun v104_277 =>
  (aLoad true 3 v30_12.2 v104_277).bind fun v105_278 =>
  (clV L i_impl_Inverse 0 [v105_278] v30_12.2).bind fun v106_279 =>
  (clV L i_impl_composeOk 0 [v103_276, v106_279.1] v106_279.2).bind fun v107_280 =>
  (aExtr 0 v107_280.1).bind fun v108_281 =>
  (aExtr 1 v107_280.1).bind fun v109_282 =>
  mkNew zc_iii v107_280.2 fun v15_283 vs_284 =>
  (aStore 3 v15_283 v108_281 vs_284).bind fun vs_285 =>
  cnd v109_282
  ((aLoad true 3 vs_285 v15_283).bind fun v115_286 =>
  (aIaddr 3 x2 v26_9.1).bind fun v116_287 =>
  (aStore 3 v116_287 v115_286 vs_285).bind fun vs_288 =>
  (aIaddr 1 x3 v26_9.1).bind fun v117_289 =>
  (aStore 1 v117_289 (.bool true) vs_288).bind fun vs_290 =>
  some (.ret, [(.bool true)], vs_290))
  ((aBin .add x19 (.int .i64 1)).bind fun v118_291 =>
  L.loop [1, 2, 3, 17, 18, 19] [8] b_impl_poseStep_1 [x1, x2, x3, x17, x18, v118_291] vs_285))
  ((aBin .add x19 (.int .i64 1)).bind fun v118_292 =>
  L.loop [1, 2, 3, 17, 18, 19] [8] b_impl_poseStep_1 [x1, x2, x3, x17, x18, v118_292] v30_12.2))
  ((aBin .add x19 (.int .i64 1)).bind fun v118_293 =>
  L.loop [1, 2, 3, 17, 18, 19] [8] b_impl_poseStep_1 [x1, x2, x3, x17, x18, v118_293] v30_12.2))
  ((aBin .add x19 (.int .i64 1)).bind fun v118_294 =>
  L.loop [1, 2, 3, 17, 18, 19] [8] b_impl_poseStep_1 [x1, x2, x3, x17, x18, v118_294] v30_12.2))))
  (some ((.exit 0), [.undef], st)) := (lim_loop F _ _ _ _ _).trans (by kernel_rfl)

theorem k_impl_poseStep_1_ret (o8 : AV) (st : St) : k_impl_poseStep_1 (.ret, [o8], st) =
  (resTup st o8).bind fun r => some (r, st.n) := by kernel_rfl

theorem k_impl_poseStep_1_0 (o8 : AV) (st : St) : k_impl_poseStep_1 ((.exit 0), [o8], st) =
  (resTup st (.bool false)).bind fun r => some (r, st.n) := by kernel_rfl

noncomputable def k_impl_poseStep_1i : XT × List AV × St → Option (AV × St) := resK L f_impl_poseStep.code [true, false, true] (inlK f_impl_poseStep.rs)

theorem inl_impl_poseStep (a0 : AV) (a1 : AV) (a2 : AV) (a3 : AV) (st : St) : L.inl i_impl_poseStep [a0, a1, a2, a3] st =
  (aLen a0).bind fun v18_1 =>
  (L.loop [1, 2, 3, 17, 18, 19] [8] b_impl_poseStep_1 [a1, a2, a3, a0, v18_1, (.int .i64 0)] st).bind k_impl_poseStep_1i := (lim_inl F _ _ _).trans (by kernel_rfl)

theorem k_impl_poseStep_1i_ret (o8 : AV) (st : St) : k_impl_poseStep_1i (.ret, [o8], st) =
  some (o8, st) := by kernel_rfl

theorem k_impl_poseStep_1i_0 (o8 : AV) (st : St) : k_impl_poseStep_1i ((.exit 0), [o8], st) =
  some ((.bool false), st) := by kernel_rfl

end Go.Proofs.YtbomeeiaeohbpaaFw
