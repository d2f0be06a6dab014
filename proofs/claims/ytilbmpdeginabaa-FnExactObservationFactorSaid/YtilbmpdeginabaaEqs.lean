/- The equations of the seat's functions, printed out of its code. Conditions: none beside each theorem's own. -/
import Derived.Test.YtilbmpdeginabaaEq
namespace Go.Proofs.YtilbmpdeginabaaFw
open Go
set_option maxRecDepth 20000
set_option linter.unusedVariables false

abbrev i_laws_FnExactObservationFactor : Nat := 5
abbrev i_laws_toObservation : Nat := 10
abbrev i_spec_ObservationFactor : Nat := 17
abbrev i_impl_ObservationFactor : Nat := 18
abbrev i_laws_eqFactor : Nat := 19
abbrev i_spec_IsValidPose : Nat := 31
abbrev i_spec_l01In : Nat := 32
abbrev i_impl_inRange : Nat := 33
abbrev i_spec_IsValidFactor : Nat := 37
abbrev i_impl_IsValidFactor : Nat := 38
abbrev i_laws_eqPose : Nat := 39
abbrev i_spec_IsPoseName : Nat := 46
abbrev i_spec_IsLandmarkName : Nat := 47
abbrev i_impl_IsValidPose : Nat := 48
abbrev i_impl_IsPoseName : Nat := 49
abbrev i_impl_IsLandmarkName : Nat := 50
abbrev i_spec_IsName : Nat := 53
abbrev i_impl_IsName : Nat := 54
abbrev zc_1 : AV := (.agg [(.int .i64 0), (.int .i64 0), (.str ⟨#[]⟩), (.str ⟨#[]⟩), (.int .i64 0), (.int .i64 0), (.int .i64 0), (.int .i64 0)])
abbrev zc_2 : AV := (.agg [(.int .i64 0), (.int .i64 0), (.int .i64 0)])

noncomputable def f_laws_FnExactObservationFactor : IFn := (F i_laws_FnExactObservationFactor).getD default

theorem call_laws_FnExactObservationFactor (a0 : AV) (a1 : AV) (a2 : AV) (a3 : AV) (n : Nat) : L.call i_laws_FnExactObservationFactor [a0, a1, a2, a3] n =
  mkNew a1 (st0 n) fun v5_1 vs_2 =>
  (aSlen a0).bind fun v12_3 =>
  (aBin .gtr v12_3 (.int .i64 1048576)).bind fun v13_4 =>
  cnd v13_4
  ((resTup vs_2 (.bool true)).bind fun r => some (r, vs_2.n))
  ((aSlen a2).bind fun v15_5 =>
  (aBin .gtr v15_5 (.int .i64 1048576)).bind fun v16_6 =>
  cnd v16_6
  ((resTup vs_2 (.bool true)).bind fun r => some (r, vs_2.n))
  ((aLoad true 3 vs_2 v5_1).bind fun v18_7 =>
  (clV L i_laws_toObservation 0 [v18_7] vs_2).bind fun v19_8 =>
  (clV L i_spec_ObservationFactor 0 [a0, v19_8.1, a2, a3] v19_8.2).bind fun v22_9 =>
  mkNew zc_1 v22_9.2 fun v9_10 vs_11 =>
  (aStore 8 v9_10 v22_9.1 vs_11).bind fun vs_12 =>
  (aLoad true 3 vs_12 v5_1).bind fun v24_13 =>
  (clV L i_laws_toObservation 0 [v24_13] vs_12).bind fun v25_14 =>
  (clV L i_impl_ObservationFactor 0 [a0, v25_14.1, a2, a3] v25_14.2).bind fun v28_15 =>
  mkNew zc_1 v28_15.2 fun v10_16 vs_17 =>
  (aStore 8 v10_16 v28_15.1 vs_17).bind fun vs_18 =>
  (aLoad true 8 vs_18 v10_16).bind fun v29_19 =>
  (aLoad true 8 vs_18 v9_10).bind fun v30_20 =>
  (clV L i_laws_eqFactor 0 [v29_19, v30_20] vs_18).bind fun v31_21 =>
  (aUn .not v31_21.1).bind fun v32_22 =>
  cnd v32_22
  ((resTup v31_21.2 (.bool false)).bind fun r => some (r, v31_21.2.n))
  ((resTup v31_21.2 (.bool true)).bind fun r => some (r, v31_21.2.n)))) := (lim_call F _ _ _).trans (by kernel_rfl)

noncomputable def f_laws_toObservation : IFn := (F i_laws_toObservation).getD default

theorem call_laws_toObservation (a0 : AV) (n : Nat) : L.call i_laws_toObservation [a0] n =
  mkNew a0 (st0 n) fun v1_1 vs_2 =>
  mkNew zc_2 vs_2 fun v2_3 vs_4 =>
  mkNew zc_2 vs_4 fun v3_5 vs_6 =>
  (aFaddr 0 v1_1).bind fun v4_7 =>
  (aLoad false 1 vs_6 v4_7).bind fun v5_8 =>
  (aFaddr 0 v3_5).bind fun v6_9 =>
  (aStore 1 v6_9 v5_8 vs_6).bind fun vs_10 =>
  (aFaddr 1 v1_1).bind fun v7_11 =>
  (aLoad false 1 vs_10 v7_11).bind fun v8_12 =>
  (aFaddr 1 v3_5).bind fun v9_13 =>
  (aStore 1 v9_13 v8_12 vs_10).bind fun vs_14 =>
  (aFaddr 2 v1_1).bind fun v10_15 =>
  (aLoad false 1 vs_14 v10_15).bind fun v11_16 =>
  (aFaddr 2 v3_5).bind fun v12_17 =>
  (aStore 1 v12_17 v11_16 vs_14).bind fun vs_18 =>
  (aLoad true 3 vs_18 v3_5).bind fun v13_19 =>
  (aStore 3 v2_3 v13_19 vs_18).bind fun vs_20 =>
  ((aLoad true 3 vs_20 v2_3).bind fun vr_21 =>
  some (vr_21 :: [])).bind fun vs =>
  (resTup vs_20 (retV vs)).bind fun r => some (r, vs_20.n) := (lim_call F _ _ _).trans (by kernel_rfl)

noncomputable def f_spec_ObservationFactor : IFn := (F i_spec_ObservationFactor).getD default

theorem call_spec_ObservationFactor (a0 : AV) (a1 : AV) (a2 : AV) (a3 : AV) (n : Nat) : L.call i_spec_ObservationFactor [a0, a1, a2, a3] n =
  mkNew a1 (st0 n) fun v5_1 vs_2 =>
  mkNew zc_1 vs_2 fun v8_3 vs_4 =>
  (aFaddr 0 v5_1).bind fun v13_5 =>
  (aLoad false 1 vs_4 v13_5).bind fun v14_6 =>
  (aFaddr 1 v5_1).bind fun v15_7 =>
  (aLoad false 1 vs_4 v15_7).bind fun v16_8 =>
  (mkBuild [(1, 1, v14_6), (2, 1, v16_8)] zc_2.cells).bind fun v17_9 =>
  (aFaddr 2 v5_1).bind fun v18_10 =>
  (aLoad false 1 vs_4 v18_10).bind fun v19_11 =>
  (mkBuild [(0, 1, a3), (1, 1, (.int .i64 3)), (2, 1, a0), (3, 1, a2), (4, 3, (.agg v17_9)), (7, 1, v19_11)] zc_1.cells).bind fun v20_12 =>
  mkNew zc_1 vs_4 fun v9_13 vs_14 =>
  (aStore 8 v9_13 (.agg v20_12) vs_14).bind fun vs_15 =>
  (aLoad true 8 vs_15 v9_13).bind fun v21_16 =>
  (clV L i_spec_IsValidFactor 0 [v21_16] vs_15).bind fun v22_17 =>
  (aUn .not v22_17.1).bind fun v23_18 =>
  cnd v23_18
  ((aStore 8 v8_3 zc_1 v22_17.2).bind fun vs_22 =>
  ((aLoad true 8 vs_22 v8_3).bind fun vr_23 =>
  some (vr_23 :: [])).bind fun vs =>
  (resTup vs_22 (retV vs)).bind fun r => some (r, vs_22.n))
  ((aLoad true 8 v22_17.2 v9_13).bind fun v25_24 =>
  (aStore 8 v8_3 v25_24 v22_17.2).bind fun vs_25 =>
  ((aLoad true 8 vs_25 v8_3).bind fun vr_26 =>
  some (vr_26 :: [])).bind fun vs =>
  (resTup vs_25 (retV vs)).bind fun r => some (r, vs_25.n)) := (lim_call F _ _ _).trans (by kernel_rfl)

noncomputable def f_impl_ObservationFactor : IFn := (F i_impl_ObservationFactor).getD default

theorem call_impl_ObservationFactor (a0 : AV) (a1 : AV) (a2 : AV) (a3 : AV) (n : Nat) : L.call i_impl_ObservationFactor [a0, a1, a2, a3] n =
  mkNew a1 (st0 n) fun v5_1 vs_2 =>
  mkNew zc_1 vs_2 fun v8_3 vs_4 =>
  (aFaddr 0 v5_1).bind fun v13_5 =>
  (aLoad false 1 vs_4 v13_5).bind fun v14_6 =>
  (aFaddr 1 v5_1).bind fun v15_7 =>
  (aLoad false 1 vs_4 v15_7).bind fun v16_8 =>
  (mkBuild [(1, 1, v14_6), (2, 1, v16_8)] zc_2.cells).bind fun v17_9 =>
  (aFaddr 2 v5_1).bind fun v18_10 =>
  (aLoad false 1 vs_4 v18_10).bind fun v19_11 =>
  (mkBuild [(0, 1, a3), (1, 1, (.int .i64 3)), (2, 1, a0), (3, 1, a2), (4, 3, (.agg v17_9)), (7, 1, v19_11)] zc_1.cells).bind fun v20_12 =>
  mkNew zc_1 vs_4 fun v9_13 vs_14 =>
  (aStore 8 v9_13 (.agg v20_12) vs_14).bind fun vs_15 =>
  (aLoad true 8 vs_15 v9_13).bind fun v21_16 =>
  (clV L i_impl_IsValidFactor 0 [v21_16] vs_15).bind fun v22_17 =>
  (aUn .not v22_17.1).bind fun v23_18 =>
  cnd v23_18
  ((aStore 8 v8_3 zc_1 v22_17.2).bind fun vs_22 =>
  ((aLoad true 8 vs_22 v8_3).bind fun vr_23 =>
  some (vr_23 :: [])).bind fun vs =>
  (resTup vs_22 (retV vs)).bind fun r => some (r, vs_22.n))
  ((aLoad true 8 v22_17.2 v9_13).bind fun v25_24 =>
  (aStore 8 v8_3 v25_24 v22_17.2).bind fun vs_25 =>
  ((aLoad true 8 vs_25 v8_3).bind fun vr_26 =>
  some (vr_26 :: [])).bind fun vs =>
  (resTup vs_25 (retV vs)).bind fun r => some (r, vs_25.n)) := (lim_call F _ _ _).trans (by kernel_rfl)

noncomputable def f_laws_eqFactor : IFn := (F i_laws_eqFactor).getD default

theorem call_laws_eqFactor (a0 : AV) (a1 : AV) (n : Nat) : L.call i_laws_eqFactor [a0, a1] n =
  mkNew a0 (st0 n) fun v2_1 vs_2 =>
  mkNew a1 vs_2 fun v3_3 vs_4 =>
  (aFaddr 0 v2_1).bind fun v5_5 =>
  (aLoad false 1 vs_4 v5_5).bind fun v6_6 =>
  (aFaddr 0 v3_3).bind fun v7_7 =>
  (aLoad false 1 vs_4 v7_7).bind fun v8_8 =>
  (aBin .neq v6_6 v8_8).bind fun v9_9 =>
  cnd v9_9
  ((resTup vs_4 (.bool false)).bind fun r => some (r, vs_4.n))
  ((aFaddr 1 v2_1).bind fun v10_10 =>
  (aLoad false 1 vs_4 v10_10).bind fun v11_11 =>
  (aFaddr 1 v3_3).bind fun v12_12 =>
  (aLoad false 1 vs_4 v12_12).bind fun v13_13 =>
  (aBin .neq v11_11 v13_13).bind fun v14_14 =>
  cnd v14_14
  ((resTup vs_4 (.bool false)).bind fun r => some (r, vs_4.n))
  ((aFaddr 2 v2_1).bind fun v15_15 =>
  (aLoad false 1 vs_4 v15_15).bind fun v16_16 =>
  (aFaddr 2 v3_3).bind fun v17_17 =>
  (aLoad false 1 vs_4 v17_17).bind fun v18_18 =>
  (aBin .neq v16_16 v18_18).bind fun v19_19 =>
  cnd v19_19
  ((resTup vs_4 (.bool false)).bind fun r => some (r, vs_4.n))
  ((aFaddr 3 v2_1).bind fun v20_20 =>
  (aLoad false 1 vs_4 v20_20).bind fun v21_21 =>
  (aFaddr 3 v3_3).bind fun v22_22 =>
  (aLoad false 1 vs_4 v22_22).bind fun v23_23 =>
  (aBin .neq v21_21 v23_23).bind fun v24_24 =>
  cnd v24_24
  ((resTup vs_4 (.bool false)).bind fun r => some (r, vs_4.n))
  ((aFaddr 4 v2_1).bind fun v25_25 =>
  (aLoad true 3 vs_4 v25_25).bind fun v26_26 =>
  (aFaddr 4 v3_3).bind fun v27_27 =>
  (aLoad true 3 vs_4 v27_27).bind fun v28_28 =>
  (clV L i_laws_eqPose 0 [v26_26, v28_28] vs_4).bind fun v29_29 =>
  (aUn .not v29_29.1).bind fun v30_30 =>
  cnd v30_30
  ((resTup v29_29.2 (.bool false)).bind fun r => some (r, v29_29.2.n))
  ((aFaddr 7 v2_1).bind fun v31_31 =>
  (aLoad false 1 v29_29.2 v31_31).bind fun v32_32 =>
  (aFaddr 7 v3_3).bind fun v33_33 =>
  (aLoad false 1 v29_29.2 v33_33).bind fun v34_34 =>
  (aBin .neq v32_32 v34_34).bind fun v35_35 =>
  cnd v35_35
  ((resTup v29_29.2 (.bool false)).bind fun r => some (r, v29_29.2.n))
  ((resTup v29_29.2 (.bool true)).bind fun r => some (r, v29_29.2.n))))))) := (lim_call F _ _ _).trans (by kernel_rfl)

noncomputable def f_spec_IsValidPose : IFn := (F i_spec_IsValidPose).getD default

theorem call_spec_IsValidPose (a0 : AV) (n : Nat) : L.call i_spec_IsValidPose [a0] n =
  mkNew a0 (st0 n) fun v1_1 vs_2 =>
  (aFaddr 0 v1_1).bind fun v3_3 =>
  (aLoad false 1 vs_2 v3_3).bind fun v4_4 =>
  (clV L i_spec_l01In 0 [v4_4, (.int .i64 0), (.int .i64 3)] vs_2).bind fun v5_5 =>
  cnd v5_5.1
  ((aFaddr 1 v1_1).bind fun v7_6 =>
  (aLoad false 1 v5_5.2 v7_6).bind fun v8_7 =>
  (clV L i_spec_l01In 0 [v8_7, (.int .i64 (-1000000)), (.int .i64 1000000)] v5_5.2).bind fun v9_8 =>
  cnd v9_8.1
  ((aFaddr 2 v1_1).bind fun v12_9 =>
  (aLoad false 1 v9_8.2 v12_9).bind fun v13_10 =>
  (clV L i_spec_l01In 0 [v13_10, (.int .i64 (-1000000)), (.int .i64 1000000)] v9_8.2).bind fun v14_11 =>
  (resTup v14_11.2 v14_11.1).bind fun r => some (r, v14_11.2.n))
  ((resTup v9_8.2 (.bool false)).bind fun r => some (r, v9_8.2.n)))
  ((resTup v5_5.2 (.bool false)).bind fun r => some (r, v5_5.2.n)) := (lim_call F _ _ _).trans (by kernel_rfl)

noncomputable def f_spec_l01In : IFn := (F i_spec_l01In).getD default

theorem call_spec_l01In (a0 : AV) (a1 : AV) (a2 : AV) (n : Nat) : L.call i_spec_l01In [a0, a1, a2] n =
  (aBin .geq a0 a1).bind fun v9_1 =>
  cnd v9_1
  ((aBin .leq a0 a2).bind fun v13_2 =>
  (resTup (st0 n) v13_2).bind fun r => some (r, (st0 n).n))
  ((resTup (st0 n) (.bool false)).bind fun r => some (r, (st0 n).n)) := (lim_call F _ _ _).trans (by kernel_rfl)

noncomputable def f_impl_inRange : IFn := (F i_impl_inRange).getD default

theorem call_impl_inRange (a0 : AV) (n : Nat) : L.call i_impl_inRange [a0] n =
  (aBin .geq a0 (.int .i64 (-1000000))).bind fun v4_1 =>
  cnd v4_1
  ((aBin .leq a0 (.int .i64 1000000)).bind fun v7_2 =>
  (resTup (st0 n) v7_2).bind fun r => some (r, (st0 n).n))
  ((resTup (st0 n) (.bool false)).bind fun r => some (r, (st0 n).n)) := (lim_call F _ _ _).trans (by kernel_rfl)

noncomputable def f_spec_IsValidFactor : IFn := (F i_spec_IsValidFactor).getD default

theorem call_spec_IsValidFactor (a0 : AV) (n : Nat) : L.call i_spec_IsValidFactor [a0] n =
  mkNew a0 (st0 n) fun v1_1 vs_2 =>
  (aFaddr 0 v1_1).bind fun v3_3 =>
  (aLoad false 1 vs_2 v3_3).bind fun v4_4 =>
  (clV L i_spec_l01In 0 [v4_4, (.int .i64 0), (.int .i64 99999)] vs_2).bind fun v5_5 =>
  (aUn .not v5_5.1).bind fun v6_6 =>
  cnd v6_6
  ((resTup v5_5.2 (.bool false)).bind fun r => some (r, v5_5.2.n))
  ((aFaddr 4 v1_1).bind fun v8_7 =>
  (aLoad true 3 v5_5.2 v8_7).bind fun v9_8 =>
  (clV L i_spec_IsValidPose 0 [v9_8] v5_5.2).bind fun v10_9 =>
  (aUn .not v10_9.1).bind fun v11_10 =>
  cnd v11_10
  ((resTup v10_9.2 (.bool false)).bind fun r => some (r, v10_9.2.n))
  ((aFaddr 7 v1_1).bind fun v14_11 =>
  (aLoad false 1 v10_9.2 v14_11).bind fun v15_12 =>
  (clV L i_spec_l01In 0 [v15_12, (.int .i64 1), (.int .i64 9999)] v10_9.2).bind fun v16_13 =>
  (aUn .not v16_13.1).bind fun v17_14 =>
  cnd v17_14
  ((resTup v16_13.2 (.bool false)).bind fun r => some (r, v16_13.2.n))
  ((aFaddr 1 v1_1).bind fun v19_15 =>
  (aLoad false 1 v16_13.2 v19_15).bind fun v20_16 =>
  (aBin .eql v20_16 (.int .i64 1)).bind fun v22_17 =>
  cnd v22_17
  ((aFaddr 2 v1_1).bind fun v23_18 =>
  (aLoad false 1 v16_13.2 v23_18).bind fun v24_19 =>
  (aBin .eql v24_19 (.str ⟨#[]⟩)).bind fun v25_20 =>
  cnd v25_20
  ((aFaddr 3 v1_1).bind fun v27_21 =>
  (aLoad false 1 v16_13.2 v27_21).bind fun v28_22 =>
  (clV L i_spec_IsPoseName 0 [v28_22] v16_13.2).bind fun v29_23 =>
  (resTup v29_23.2 v29_23.1).bind fun r => some (r, v29_23.2.n))
  ((resTup v16_13.2 (.bool false)).bind fun r => some (r, v16_13.2.n)))
  ((aBin .eql v20_16 (.int .i64 2)).bind fun v32_24 =>
  cnd v32_24
  ((aFaddr 2 v1_1).bind fun v34_25 =>
  (aLoad false 1 v16_13.2 v34_25).bind fun v35_26 =>
  (clV L i_spec_IsPoseName 0 [v35_26] v16_13.2).bind fun v36_27 =>
  cnd v36_27.1
  ((aFaddr 3 v1_1).bind fun v38_28 =>
  (aLoad false 1 v36_27.2 v38_28).bind fun v39_29 =>
  (clV L i_spec_IsPoseName 0 [v39_29] v36_27.2).bind fun v40_30 =>
  cnd v40_30.1
  ((aFaddr 2 v1_1).bind fun v43_31 =>
  (aLoad false 1 v40_30.2 v43_31).bind fun v44_32 =>
  (aFaddr 3 v1_1).bind fun v45_33 =>
  (aLoad false 1 v40_30.2 v45_33).bind fun v46_34 =>
  (aBin .neq v44_32 v46_34).bind fun v47_35 =>
  (resTup v40_30.2 v47_35).bind fun r => some (r, v40_30.2.n))
  ((resTup v40_30.2 (.bool false)).bind fun r => some (r, v40_30.2.n)))
  ((resTup v36_27.2 (.bool false)).bind fun r => some (r, v36_27.2.n)))
  ((aBin .eql v20_16 (.int .i64 4)).bind fun v33_36 =>
  cnd v33_36
  ((aFaddr 2 v1_1).bind fun v34_37 =>
  (aLoad false 1 v16_13.2 v34_37).bind fun v35_38 =>
  (clV L i_spec_IsPoseName 0 [v35_38] v16_13.2).bind fun v36_39 =>
  cnd v36_39.1
  ((aFaddr 3 v1_1).bind fun v38_40 =>
  (aLoad false 1 v36_39.2 v38_40).bind fun v39_41 =>
  (clV L i_spec_IsPoseName 0 [v39_41] v36_39.2).bind fun v40_42 =>
  cnd v40_42.1
  ((aFaddr 2 v1_1).bind fun v43_43 =>
  (aLoad false 1 v40_42.2 v43_43).bind fun v44_44 =>
  (aFaddr 3 v1_1).bind fun v45_45 =>
  (aLoad false 1 v40_42.2 v45_45).bind fun v46_46 =>
  (aBin .neq v44_44 v46_46).bind fun v47_47 =>
  (resTup v40_42.2 v47_47).bind fun r => some (r, v40_42.2.n))
  ((resTup v40_42.2 (.bool false)).bind fun r => some (r, v40_42.2.n)))
  ((resTup v36_39.2 (.bool false)).bind fun r => some (r, v36_39.2.n)))
  ((aBin .eql v20_16 (.int .i64 3)).bind fun v50_48 =>
  cnd v50_48
  ((aFaddr 2 v1_1).bind fun v51_49 =>
  (aLoad false 1 v16_13.2 v51_49).bind fun v52_50 =>
  (clV L i_spec_IsPoseName 0 [v52_50] v16_13.2).bind fun v53_51 =>
  cnd v53_51.1
  ((aFaddr 3 v1_1).bind fun v55_52 =>
  (aLoad false 1 v53_51.2 v55_52).bind fun v56_53 =>
  (clV L i_spec_IsLandmarkName 0 [v56_53] v53_51.2).bind fun v57_54 =>
  cnd v57_54.1
  ((aFaddr 4 v1_1).bind fun v60_55 =>
  (aFaddr 0 v60_55).bind fun v61_56 =>
  (aLoad false 1 v57_54.2 v61_56).bind fun v62_57 =>
  (aBin .eql v62_57 (.int .i64 0)).bind fun v63_58 =>
  (resTup v57_54.2 v63_58).bind fun r => some (r, v57_54.2.n))
  ((resTup v57_54.2 (.bool false)).bind fun r => some (r, v57_54.2.n)))
  ((resTup v53_51.2 (.bool false)).bind fun r => some (r, v53_51.2.n)))
  ((resTup v16_13.2 (.bool false)).bind fun r => some (r, v16_13.2.n)))))))) := (lim_call F _ _ _).trans (by kernel_rfl)

noncomputable def f_impl_IsValidFactor : IFn := (F i_impl_IsValidFactor).getD default

theorem call_impl_IsValidFactor (a0 : AV) (n : Nat) : L.call i_impl_IsValidFactor [a0] n =
  mkNew a0 (st0 n) fun v1_1 vs_2 =>
  (aFaddr 0 v1_1).bind fun v3_3 =>
  (aLoad false 1 vs_2 v3_3).bind fun v4_4 =>
  (aBin .lss v4_4 (.int .i64 0)).bind fun v5_5 =>
  cnd v5_5
  ((resTup vs_2 (.bool false)).bind fun r => some (r, vs_2.n))
  ((aFaddr 0 v1_1).bind fun v7_6 =>
  (aLoad false 1 vs_2 v7_6).bind fun v8_7 =>
  (aBin .gtr v8_7 (.int .i64 99999)).bind fun v9_8 =>
  cnd v9_8
  ((resTup vs_2 (.bool false)).bind fun r => some (r, vs_2.n))
  ((aFaddr 4 v1_1).bind fun v12_9 =>
  (aLoad true 3 vs_2 v12_9).bind fun v13_10 =>
  (clV L i_impl_IsValidPose 0 [v13_10] vs_2).bind fun v14_11 =>
  (aUn .not v14_11.1).bind fun v15_12 =>
  cnd v15_12
  ((resTup v14_11.2 (.bool false)).bind fun r => some (r, v14_11.2.n))
  ((aFaddr 7 v1_1).bind fun v18_13 =>
  (aLoad false 1 v14_11.2 v18_13).bind fun v19_14 =>
  (aBin .lss v19_14 (.int .i64 1)).bind fun v20_15 =>
  cnd v20_15
  ((resTup v14_11.2 (.bool false)).bind fun r => some (r, v14_11.2.n))
  ((aFaddr 7 v1_1).bind fun v23_16 =>
  (aLoad false 1 v14_11.2 v23_16).bind fun v24_17 =>
  (aBin .gtr v24_17 (.int .i64 9999)).bind fun v25_18 =>
  cnd v25_18
  ((resTup v14_11.2 (.bool false)).bind fun r => some (r, v14_11.2.n))
  ((aFaddr 1 v1_1).bind fun v27_19 =>
  (aLoad false 1 v14_11.2 v27_19).bind fun v28_20 =>
  (aBin .eql v28_20 (.int .i64 1)).bind fun v30_21 =>
  cnd v30_21
  ((aFaddr 2 v1_1).bind fun v31_22 =>
  (aLoad false 1 v14_11.2 v31_22).bind fun v32_23 =>
  (aBin .eql v32_23 (.str ⟨#[]⟩)).bind fun v33_24 =>
  cnd v33_24
  ((aFaddr 3 v1_1).bind fun v35_25 =>
  (aLoad false 1 v14_11.2 v35_25).bind fun v36_26 =>
  (clV L i_impl_IsPoseName 0 [v36_26] v14_11.2).bind fun v37_27 =>
  (resTup v37_27.2 v37_27.1).bind fun r => some (r, v37_27.2.n))
  ((resTup v14_11.2 (.bool false)).bind fun r => some (r, v14_11.2.n)))
  ((aBin .eql v28_20 (.int .i64 2)).bind fun v40_28 =>
  cnd v40_28
  ((aFaddr 2 v1_1).bind fun v42_29 =>
  (aLoad false 1 v14_11.2 v42_29).bind fun v43_30 =>
  (clV L i_impl_IsPoseName 0 [v43_30] v14_11.2).bind fun v44_31 =>
  cnd v44_31.1
  ((aFaddr 3 v1_1).bind fun v46_32 =>
  (aLoad false 1 v44_31.2 v46_32).bind fun v47_33 =>
  (clV L i_impl_IsPoseName 0 [v47_33] v44_31.2).bind fun v48_34 =>
  cnd v48_34.1
  ((aFaddr 2 v1_1).bind fun v51_35 =>
  (aLoad false 1 v48_34.2 v51_35).bind fun v52_36 =>
  (aFaddr 3 v1_1).bind fun v53_37 =>
  (aLoad false 1 v48_34.2 v53_37).bind fun v54_38 =>
  (aBin .neq v52_36 v54_38).bind fun v55_39 =>
  (resTup v48_34.2 v55_39).bind fun r => some (r, v48_34.2.n))
  ((resTup v48_34.2 (.bool false)).bind fun r => some (r, v48_34.2.n)))
  ((resTup v44_31.2 (.bool false)).bind fun r => some (r, v44_31.2.n)))
  ((aBin .eql v28_20 (.int .i64 4)).bind fun v41_40 =>
  cnd v41_40
  ((aFaddr 2 v1_1).bind fun v42_41 =>
  (aLoad false 1 v14_11.2 v42_41).bind fun v43_42 =>
  (clV L i_impl_IsPoseName 0 [v43_42] v14_11.2).bind fun v44_43 =>
  cnd v44_43.1
  ((aFaddr 3 v1_1).bind fun v46_44 =>
  (aLoad false 1 v44_43.2 v46_44).bind fun v47_45 =>
  (clV L i_impl_IsPoseName 0 [v47_45] v44_43.2).bind fun v48_46 =>
  cnd v48_46.1
  ((aFaddr 2 v1_1).bind fun v51_47 =>
  (aLoad false 1 v48_46.2 v51_47).bind fun v52_48 =>
  (aFaddr 3 v1_1).bind fun v53_49 =>
  (aLoad false 1 v48_46.2 v53_49).bind fun v54_50 =>
  (aBin .neq v52_48 v54_50).bind fun v55_51 =>
  (resTup v48_46.2 v55_51).bind fun r => some (r, v48_46.2.n))
  ((resTup v48_46.2 (.bool false)).bind fun r => some (r, v48_46.2.n)))
  ((resTup v44_43.2 (.bool false)).bind fun r => some (r, v44_43.2.n)))
  ((aBin .eql v28_20 (.int .i64 3)).bind fun v58_52 =>
  cnd v58_52
  ((aFaddr 2 v1_1).bind fun v59_53 =>
  (aLoad false 1 v14_11.2 v59_53).bind fun v60_54 =>
  (clV L i_impl_IsPoseName 0 [v60_54] v14_11.2).bind fun v61_55 =>
  cnd v61_55.1
  ((aFaddr 3 v1_1).bind fun v63_56 =>
  (aLoad false 1 v61_55.2 v63_56).bind fun v64_57 =>
  (clV L i_impl_IsLandmarkName 0 [v64_57] v61_55.2).bind fun v65_58 =>
  cnd v65_58.1
  ((aFaddr 4 v1_1).bind fun v68_59 =>
  (aFaddr 0 v68_59).bind fun v69_60 =>
  (aLoad false 1 v65_58.2 v69_60).bind fun v70_61 =>
  (aBin .eql v70_61 (.int .i64 0)).bind fun v71_62 =>
  (resTup v65_58.2 v71_62).bind fun r => some (r, v65_58.2.n))
  ((resTup v65_58.2 (.bool false)).bind fun r => some (r, v65_58.2.n)))
  ((resTup v61_55.2 (.bool false)).bind fun r => some (r, v61_55.2.n)))
  ((resTup v14_11.2 (.bool false)).bind fun r => some (r, v14_11.2.n)))))))))) := (lim_call F _ _ _).trans (by kernel_rfl)

noncomputable def f_laws_eqPose : IFn := (F i_laws_eqPose).getD default

theorem call_laws_eqPose (a0 : AV) (a1 : AV) (n : Nat) : L.call i_laws_eqPose [a0, a1] n =
  mkNew a0 (st0 n) fun v2_1 vs_2 =>
  mkNew a1 vs_2 fun v3_3 vs_4 =>
  (aFaddr 0 v2_1).bind fun v5_5 =>
  (aLoad false 1 vs_4 v5_5).bind fun v6_6 =>
  (aFaddr 0 v3_3).bind fun v7_7 =>
  (aLoad false 1 vs_4 v7_7).bind fun v8_8 =>
  (aBin .neq v6_6 v8_8).bind fun v9_9 =>
  cnd v9_9
  ((resTup vs_4 (.bool false)).bind fun r => some (r, vs_4.n))
  ((aFaddr 1 v2_1).bind fun v10_10 =>
  (aLoad false 1 vs_4 v10_10).bind fun v11_11 =>
  (aFaddr 1 v3_3).bind fun v12_12 =>
  (aLoad false 1 vs_4 v12_12).bind fun v13_13 =>
  (aBin .neq v11_11 v13_13).bind fun v14_14 =>
  cnd v14_14
  ((resTup vs_4 (.bool false)).bind fun r => some (r, vs_4.n))
  ((aFaddr 2 v2_1).bind fun v15_15 =>
  (aLoad false 1 vs_4 v15_15).bind fun v16_16 =>
  (aFaddr 2 v3_3).bind fun v17_17 =>
  (aLoad false 1 vs_4 v17_17).bind fun v18_18 =>
  (aBin .neq v16_16 v18_18).bind fun v19_19 =>
  cnd v19_19
  ((resTup vs_4 (.bool false)).bind fun r => some (r, vs_4.n))
  ((resTup vs_4 (.bool true)).bind fun r => some (r, vs_4.n)))) := (lim_call F _ _ _).trans (by kernel_rfl)

noncomputable def f_spec_IsPoseName : IFn := (F i_spec_IsPoseName).getD default

theorem call_spec_IsPoseName (a0 : AV) (n : Nat) : L.call i_spec_IsPoseName [a0] n =
  (clV L i_spec_IsName 0 [a0] (st0 n)).bind fun v4_1 =>
  cnd v4_1.1
  ((aSidx a0 (.int .i64 0)).bind fun v7_2 =>
  (aBin .eql v7_2 (.int .u8 112)).bind fun v8_3 =>
  (resTup v4_1.2 v8_3).bind fun r => some (r, v4_1.2.n))
  ((resTup v4_1.2 (.bool false)).bind fun r => some (r, v4_1.2.n)) := (lim_call F _ _ _).trans (by kernel_rfl)

noncomputable def f_spec_IsLandmarkName : IFn := (F i_spec_IsLandmarkName).getD default

theorem call_spec_IsLandmarkName (a0 : AV) (n : Nat) : L.call i_spec_IsLandmarkName [a0] n =
  (clV L i_spec_IsName 0 [a0] (st0 n)).bind fun v4_1 =>
  cnd v4_1.1
  ((aSidx a0 (.int .i64 0)).bind fun v7_2 =>
  (aBin .eql v7_2 (.int .u8 109)).bind fun v8_3 =>
  (resTup v4_1.2 v8_3).bind fun r => some (r, v4_1.2.n))
  ((resTup v4_1.2 (.bool false)).bind fun r => some (r, v4_1.2.n)) := (lim_call F _ _ _).trans (by kernel_rfl)

noncomputable def f_impl_IsValidPose : IFn := (F i_impl_IsValidPose).getD default

theorem call_impl_IsValidPose (a0 : AV) (n : Nat) : L.call i_impl_IsValidPose [a0] n =
  mkNew a0 (st0 n) fun v1_1 vs_2 =>
  (aFaddr 0 v1_1).bind fun v3_3 =>
  (aLoad false 1 vs_2 v3_3).bind fun v4_4 =>
  (aBin .geq v4_4 (.int .i64 0)).bind fun v5_5 =>
  cnd v5_5
  ((aFaddr 0 v1_1).bind fun v7_6 =>
  (aLoad false 1 vs_2 v7_6).bind fun v8_7 =>
  (aBin .leq v8_7 (.int .i64 3)).bind fun v9_8 =>
  cnd v9_8
  ((aFaddr 1 v1_1).bind fun v12_9 =>
  (aLoad false 1 vs_2 v12_9).bind fun v13_10 =>
  (clV L i_impl_inRange 0 [v13_10] vs_2).bind fun v14_11 =>
  cnd v14_11.1
  ((aFaddr 2 v1_1).bind fun v17_12 =>
  (aLoad false 1 v14_11.2 v17_12).bind fun v18_13 =>
  (clV L i_impl_inRange 0 [v18_13] v14_11.2).bind fun v19_14 =>
  (resTup v19_14.2 v19_14.1).bind fun r => some (r, v19_14.2.n))
  ((resTup v14_11.2 (.bool false)).bind fun r => some (r, v14_11.2.n)))
  ((resTup vs_2 (.bool false)).bind fun r => some (r, vs_2.n)))
  ((resTup vs_2 (.bool false)).bind fun r => some (r, vs_2.n)) := (lim_call F _ _ _).trans (by kernel_rfl)

noncomputable def f_impl_IsPoseName : IFn := (F i_impl_IsPoseName).getD default

theorem call_impl_IsPoseName (a0 : AV) (n : Nat) : L.call i_impl_IsPoseName [a0] n =
  (clV L i_impl_IsName 0 [a0] (st0 n)).bind fun v4_1 =>
  cnd v4_1.1
  ((aSidx a0 (.int .i64 0)).bind fun v7_2 =>
  (aBin .eql v7_2 (.int .u8 112)).bind fun v8_3 =>
  (resTup v4_1.2 v8_3).bind fun r => some (r, v4_1.2.n))
  ((resTup v4_1.2 (.bool false)).bind fun r => some (r, v4_1.2.n)) := (lim_call F _ _ _).trans (by kernel_rfl)

noncomputable def f_impl_IsLandmarkName : IFn := (F i_impl_IsLandmarkName).getD default

theorem call_impl_IsLandmarkName (a0 : AV) (n : Nat) : L.call i_impl_IsLandmarkName [a0] n =
  (clV L i_impl_IsName 0 [a0] (st0 n)).bind fun v4_1 =>
  cnd v4_1.1
  ((aSidx a0 (.int .i64 0)).bind fun v7_2 =>
  (aBin .eql v7_2 (.int .u8 109)).bind fun v8_3 =>
  (resTup v4_1.2 v8_3).bind fun r => some (r, v4_1.2.n))
  ((resTup v4_1.2 (.bool false)).bind fun r => some (r, v4_1.2.n)) := (lim_call F _ _ _).trans (by kernel_rfl)

noncomputable def f_spec_IsName : IFn := (F i_spec_IsName).getD default

noncomputable def b_spec_IsName_1 : ICode := loopAt f_spec_IsName.code 0

noncomputable def k_spec_IsName_1 : XT × List AV × St → Option (AV × Nat) := resK L f_spec_IsName.code [true, false, true] (callK f_spec_IsName.rs)

theorem call_spec_IsName (a0 : AV) (n : Nat) : L.call i_spec_IsName [a0] n =
  (L.loop [0, 3] [0, 2] b_spec_IsName_1 [a0, (.int .i64 0)] (st0 n)).bind k_spec_IsName_1 := (lim_call F _ _ _).trans (by kernel_rfl)

theorem loop_spec_IsName_1 (x0 : AV) (x3 : AV) (st : St) : L.loop [0, 3] [0, 2] b_spec_IsName_1 [x0, x3] st =
  (aSlen x0).bind fun v7_1 =>
  (aBin .lss x3 v7_1).bind fun v8_2 =>
  cnd v8_2
  ((aSidx x0 x3).bind fun v13_3 =>
  (aBin .geq v13_3 (.int .u8 97)).bind fun v14_4 =>
  cnd v14_4
  ((aSidx x0 x3).bind fun v18_5 =>
  (aBin .leq v18_5 (.int .u8 122)).bind fun v19_6 =>
  (aUn .not v19_6).bind fun v22_7 =>
  cnd v22_7
  ((aBin .eql x3 (.int .i64 0)).bind fun v25_8 =>
  cnd v25_8
  (some (.ret, [x0, (.bool false)], st))
  ((aSidx x0 x3).bind fun v29_9 =>
  (aBin .lss v29_9 (.int .u8 48)).bind fun v30_10 =>
  cnd v30_10
  (some (.ret, [x0, (.bool false)], st))
  ((aSidx x0 x3).bind fun v35_11 =>
  (aBin .gtr v35_11 (.int .u8 57)).bind fun v36_12 =>
  cnd v36_12
  (some (.ret, [x0, (.bool false)], st))
  ((aBin .add x3 (.int .i64 1)).bind fun v10_13 =>
  L.loop [0, 3] [0, 2] b_spec_IsName_1 [x0, v10_13] st))))
  ((aBin .add x3 (.int .i64 1)).bind fun v10_14 =>
  L.loop [0, 3] [0, 2] b_spec_IsName_1 [x0, v10_14] st))
  ((aUn .not (.bool false)).bind fun v22_15 =>
  cnd v22_15
  ((aBin .eql x3 (.int .i64 0)).bind fun v25_16 =>
  cnd v25_16
  (some (.ret, [x0, (.bool false)], st))
  ((aSidx x0 x3).bind fun v29_17 =>
  (aBin .lss v29_17 (.int .u8 48)).bind fun v30_18 =>
  cnd v30_18
  (some (.ret, [x0, (.bool false)], st))
  ((aSidx x0 x3).bind fun v35_19 =>
  (aBin .gtr v35_19 (.int .u8 57)).bind fun v36_20 =>
  cnd v36_20
  (some (.ret, [x0, (.bool false)], st))
  ((aBin .add x3 (.int .i64 1)).bind fun v10_21 =>
  L.loop [0, 3] [0, 2] b_spec_IsName_1 [x0, v10_21] st))))
  ((aBin .add x3 (.int .i64 1)).bind fun v10_22 =>
  L.loop [0, 3] [0, 2] b_spec_IsName_1 [x0, v10_22] st)))
  (some ((.exit 0), [x0, .undef], st)) := (lim_loop F _ _ _ _ _).trans (by kernel_rfl)

theorem k_spec_IsName_1_ret (o0 : AV) (o2 : AV) (st : St) : k_spec_IsName_1 (.ret, [o0, o2], st) =
  (resTup st o2).bind fun r => some (r, st.n) := by kernel_rfl

theorem k_spec_IsName_1_0 (o0 : AV) (o2 : AV) (st : St) : k_spec_IsName_1 ((.exit 0), [o0, o2], st) =
  (aSlen o0).bind fun v40_1 =>
  (clV L i_spec_l01In 0 [v40_1, (.int .i64 1), (.int .i64 8)] st).bind fun v41_2 =>
  (resTup v41_2.2 v41_2.1).bind fun r => some (r, v41_2.2.n) := by kernel_rfl

noncomputable def f_impl_IsName : IFn := (F i_impl_IsName).getD default

noncomputable def b_impl_IsName_1 : ICode := loopAt f_impl_IsName.code 0

noncomputable def k_impl_IsName_1 : XT × List AV × St → Option (AV × Nat) := resK L f_impl_IsName.code [true, true, false, true] (callK f_impl_IsName.rs)

theorem call_impl_IsName (a0 : AV) (n : Nat) : L.call i_impl_IsName [a0] n =
  (aSlen a0).bind fun v7_1 =>
  (aBin .lss v7_1 (.int .i64 1)).bind fun v8_2 =>
  cnd v8_2
  ((resTup (st0 n) (.bool false)).bind fun r => some (r, (st0 n).n))
  ((aSlen a0).bind fun v11_3 =>
  (aBin .gtr v11_3 (.int .i64 8)).bind fun v12_4 =>
  cnd v12_4
  ((resTup (st0 n) (.bool false)).bind fun r => some (r, (st0 n).n))
  ((L.loop [0, 3] [2] b_impl_IsName_1 [a0, (.int .i64 0)] (st0 n)).bind k_impl_IsName_1)) := (lim_call F _ _ _).trans (by kernel_rfl)

theorem loop_impl_IsName_1 (x0 : AV) (x3 : AV) (st : St) : L.loop [0, 3] [2] b_impl_IsName_1 [x0, x3] st =
  (aSlen x0).bind fun v16_1 =>
  (aBin .lss x3 v16_1).bind fun v17_2 =>
  cnd v17_2
  ((aSidx x0 x3).bind fun v22_3 =>
  (aBin .geq v22_3 (.int .u8 97)).bind fun v23_4 =>
  cnd v23_4
  ((aSidx x0 x3).bind fun v27_5 =>
  (aBin .leq v27_5 (.int .u8 122)).bind fun v28_6 =>
  (aSidx x0 x3).bind fun v32_7 =>
  (aBin .geq v32_7 (.int .u8 48)).bind fun v33_8 =>
  cnd v33_8
  ((aSidx x0 x3).bind fun v37_9 =>
  (aBin .leq v37_9 (.int .u8 57)).bind fun v38_10 =>
  (aUn .not v28_6).bind fun v41_11 =>
  cnd v41_11
  ((aBin .eql x3 (.int .i64 0)).bind fun v44_12 =>
  cnd v44_12
  (some (.ret, [(.bool false)], st))
  ((aUn .not v38_10).bind fun v47_13 =>
  cnd v47_13
  (some (.ret, [(.bool false)], st))
  ((aBin .add x3 (.int .i64 1)).bind fun v19_14 =>
  L.loop [0, 3] [2] b_impl_IsName_1 [x0, v19_14] st)))
  ((aBin .add x3 (.int .i64 1)).bind fun v19_15 =>
  L.loop [0, 3] [2] b_impl_IsName_1 [x0, v19_15] st))
  ((aUn .not v28_6).bind fun v41_16 =>
  cnd v41_16
  ((aBin .eql x3 (.int .i64 0)).bind fun v44_17 =>
  cnd v44_17
  (some (.ret, [(.bool false)], st))
  ((aUn .not (.bool false)).bind fun v47_18 =>
  cnd v47_18
  (some (.ret, [(.bool false)], st))
  ((aBin .add x3 (.int .i64 1)).bind fun v19_19 =>
  L.loop [0, 3] [2] b_impl_IsName_1 [x0, v19_19] st)))
  ((aBin .add x3 (.int .i64 1)).bind fun v19_20 =>
  L.loop [0, 3] [2] b_impl_IsName_1 [x0, v19_20] st)))
  ((aSidx x0 x3).bind fun v32_21 =>
  (aBin .geq v32_21 (.int .u8 48)).bind fun v33_22 =>
  cnd v33_22
  ((aSidx x0 x3).bind fun v37_23 =>
  (aBin .leq v37_23 (.int .u8 57)).bind fun v38_24 =>
  (aUn .not (.bool false)).bind fun v41_25 =>
  cnd v41_25
  ((aBin .eql x3 (.int .i64 0)).bind fun v44_26 =>
  cnd v44_26
  (some (.ret, [(.bool false)], st))
  ((aUn .not v38_24).bind fun v47_27 =>
  cnd v47_27
  (some (.ret, [(.bool false)], st))
  ((aBin .add x3 (.int .i64 1)).bind fun v19_28 =>
  L.loop [0, 3] [2] b_impl_IsName_1 [x0, v19_28] st)))
  ((aBin .add x3 (.int .i64 1)).bind fun v19_29 =>
  L.loop [0, 3] [2] b_impl_IsName_1 [x0, v19_29] st))
  ((aUn .not (.bool false)).bind fun v41_30 =>
  cnd v41_30
  ((aBin .eql x3 (.int .i64 0)).bind fun v44_31 =>
  cnd v44_31
  (some (.ret, [(.bool false)], st))
  ((aUn .not (.bool false)).bind fun v47_32 =>
  cnd v47_32
  (some (.ret, [(.bool false)], st))
  ((aBin .add x3 (.int .i64 1)).bind fun v19_33 =>
  L.loop [0, 3] [2] b_impl_IsName_1 [x0, v19_33] st)))
  ((aBin .add x3 (.int .i64 1)).bind fun v19_34 =>
  L.loop [0, 3] [2] b_impl_IsName_1 [x0, v19_34] st))))
  (some ((.exit 0), [.undef], st)) := (lim_loop F _ _ _ _ _).trans (by kernel_rfl)

theorem k_impl_IsName_1_ret (o2 : AV) (st : St) : k_impl_IsName_1 (.ret, [o2], st) =
  (resTup st o2).bind fun r => some (r, st.n) := by kernel_rfl

theorem k_impl_IsName_1_0 (o2 : AV) (st : St) : k_impl_IsName_1 ((.exit 0), [o2], st) =
  (resTup st (.bool true)).bind fun r => some (r, st.n) := by kernel_rfl

end Go.Proofs.YtilbmpdeginabaaFw
