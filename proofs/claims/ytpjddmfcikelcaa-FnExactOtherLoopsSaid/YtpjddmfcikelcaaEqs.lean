/- The equations of the seat's functions, printed out of its code. Conditions: none beside each theorem's own. -/
import Derived.Test.YtpjddmfcikelcaaEq
namespace Go.Proofs.YtpjddmfcikelcaaFw
open Go
set_option maxRecDepth 20000
set_option linter.unusedVariables false

abbrev i_laws_FnExactOtherLoops : Nat := 7
abbrev i_laws_eqIntS : Nat := 23
abbrev i_laws_markIntS : Nat := 26
abbrev i_laws_heldIntS : Nat := 27
abbrev i_laws_szFactorS : Nat := 30
abbrev i_spec_OtherLoops : Nat := 31
abbrev i_laws_toFactorS : Nat := 32
abbrev i_laws_toIntS : Nat := 33
abbrev i_impl_OtherLoops : Nat := 34
abbrev i_laws_eqFactorS : Nat := 35
abbrev i_laws_markFactorS : Nat := 36
abbrev i_laws_eqFactor : Nat := 40
abbrev i_laws_eqPose : Nat := 43
abbrev i_impl_FactorIds : Nat := 47
abbrev i_impl_hasInt : Nat := 57
abbrev i_laws_szFactor : Nat := 66
abbrev i_spec_FactorIds : Nat := 67
abbrev i_spec_l07Has : Nat := 68
abbrev i_laws_toFactor : Nat := 69
abbrev i_laws_markText : Nat := 70
abbrev i_laws_toPose : Nat := 91
abbrev zc_1 : AV := (.agg [(.int .i64 0), (.int .i64 0), (.str ⟨#[]⟩), (.str ⟨#[]⟩), (.int .i64 0), (.int .i64 0), (.int .i64 0), (.int .i64 0)])
abbrev zc_2 : AV := (.agg [(.int .i64 0), (.int .i64 0), (.int .i64 0)])

noncomputable def f_laws_FnExactOtherLoops : IFn := (F i_laws_FnExactOtherLoops).getD default

theorem call_laws_FnExactOtherLoops (a0 : AV) (a1 : AV) (n : Nat) : L.call i_laws_FnExactOtherLoops [a0, a1] n =
  (aLen a1).bind fun v15_1 =>
  (aBin .gtr v15_1 (.int .i64 1048576)).bind fun v16_2 =>
  cnd v16_2
  ((resTup (st0 n) (.bool true)).bind fun r => some (r, (st0 n).n))
  ((clV L i_laws_szFactorS 0 [a0, (.int .i64 1048576)] (st0 n)).bind fun v19_3 =>
  (aBin .lss v19_3.1 (.int .i64 0)).bind fun v21_4 =>
  cnd v21_4
  ((resTup v19_3.2 (.bool true)).bind fun r => some (r, v19_3.2.n))
  ((clV L i_laws_toFactorS 0 [a0] v19_3.2).bind fun v23_5 =>
  (clV L i_laws_toIntS 0 [a1] v23_5.2).bind fun v25_6 =>
  (clV L i_spec_OtherLoops 0 [v23_5.1, v25_6.1] v25_6.2).bind fun v26_7 =>
  (clV L i_laws_toFactorS 6 [a0] v26_7.2).bind fun v28_8 =>
  (clV L i_laws_toIntS 6 [a1] v28_8.2).bind fun v30_9 =>
  (clV L i_impl_OtherLoops 6 [v28_8.1, v30_9.1] v30_9.2).bind fun v33_10 =>
  (clV L i_laws_eqIntS 0 [v33_10.1, v26_7.1] v33_10.2).bind fun v36_11 =>
  (aUn .not v36_11.1).bind fun v37_12 =>
  cnd v37_12
  ((resTup v36_11.2 (.bool false)).bind fun r => some (r, v36_11.2.n))
  ((clV L i_laws_toFactorS 0 [a0] v36_11.2).bind fun v40_13 =>
  (clV L i_laws_eqFactorS 0 [v28_8.1, v40_13.1] v40_13.2).bind fun v41_14 =>
  (aUn .not v41_14.1).bind fun v42_15 =>
  cnd v42_15
  ((resTup v41_14.2 (.bool false)).bind fun r => some (r, v41_14.2.n))
  ((clV L i_laws_toIntS 0 [a1] v41_14.2).bind fun v45_16 =>
  (clV L i_laws_eqIntS 0 [v30_9.1, v45_16.1] v45_16.2).bind fun v46_17 =>
  (aUn .not v46_17.1).bind fun v47_18 =>
  cnd v47_18
  ((resTup v46_17.2 (.bool false)).bind fun r => some (r, v46_17.2.n))
  ((L.inl i_laws_markFactorS [v28_8.1, (.int .i64 1)] v46_17.2).bind fun v50_19 =>
  (L.inl i_laws_markIntS [v30_9.1, v50_19.1] v50_19.2).bind fun v53_20 =>
  (aBin .lss v53_20.1 (.int .i64 0)).bind fun v55_21 =>
  cnd v55_21
  ((resTup v53_20.2 (.bool false)).bind fun r => some (r, v53_20.2.n))
  ((clV L i_laws_eqIntS 0 [v33_10.1, v26_7.1] v53_20.2).bind fun v59_22 =>
  (aUn .not v59_22.1).bind fun v60_23 =>
  cnd v60_23
  ((resTup v59_22.2 (.bool false)).bind fun r => some (r, v59_22.2.n))
  ((L.inl i_laws_markIntS [v33_10.1, (.int .i64 1)] v59_22.2).bind fun v64_24 =>
  (clV L i_laws_heldIntS 0 [v33_10.1, (.int .i64 1)] v64_24.2).bind fun v67_25 =>
  (aBin .lss v67_25.1 (.int .i64 0)).bind fun v69_26 =>
  cnd v69_26
  ((resTup v67_25.2 (.bool false)).bind fun r => some (r, v67_25.2.n))
  ((aBin .neq v67_25.1 v64_24.1).bind fun v72_27 =>
  cnd v72_27
  ((resTup v67_25.2 (.bool false)).bind fun r => some (r, v67_25.2.n))
  ((clV L i_laws_toFactorS 0 [a0] v67_25.2).bind fun v74_28 =>
  (clV L i_laws_toIntS 0 [a1] v74_28.2).bind fun v76_29 =>
  (clV L i_impl_OtherLoops 0 [v74_28.1, v76_29.1] v76_29.2).bind fun v77_30 =>
  (clV L i_laws_eqIntS 0 [v77_30.1, v26_7.1] v77_30.2).bind fun v80_31 =>
  (aUn .not v80_31.1).bind fun v81_32 =>
  cnd v81_32
  ((resTup v80_31.2 (.bool false)).bind fun r => some (r, v80_31.2.n))
  ((clV L i_laws_heldIntS 0 [v33_10.1, (.int .i64 1)] v80_31.2).bind fun v84_33 =>
  (aBin .lss v84_33.1 (.int .i64 0)).bind fun v86_34 =>
  cnd v86_34
  ((resTup v84_33.2 (.bool false)).bind fun r => some (r, v84_33.2.n))
  ((aBin .neq v84_33.1 v64_24.1).bind fun v89_35 =>
  cnd v89_35
  ((resTup v84_33.2 (.bool false)).bind fun r => some (r, v84_33.2.n))
  ((resTup v84_33.2 (.bool true)).bind fun r => some (r, v84_33.2.n))))))))))))) := (lim_call F _ _ _).trans (by kernel_rfl)

noncomputable def f_laws_eqIntS : IFn := (F i_laws_eqIntS).getD default

noncomputable def b_laws_eqIntS_1 : ICode := loopAt f_laws_eqIntS.code 0

noncomputable def k_laws_eqIntS_1 : XT × List AV × St → Option (AV × Nat) := resK L f_laws_eqIntS.code [true, true, false, true] (callK f_laws_eqIntS.rs)

theorem call_laws_eqIntS (a0 : AV) (a1 : AV) (n : Nat) : L.call i_laws_eqIntS [a0, a1] n =
  (aLen a0).bind fun v7_1 =>
  (aLen a1).bind fun v9_2 =>
  (aBin .neq v7_1 v9_2).bind fun v10_3 =>
  cnd v10_3
  ((resTup (st0 n) (.bool false)).bind fun r => some (r, (st0 n).n))
  ((L.loop [0, 1, 5] [4] b_laws_eqIntS_1 [a0, a1, (.int .i64 0)] (st0 n)).bind k_laws_eqIntS_1) := (lim_call F _ _ _).trans (by kernel_rfl)

theorem loop_laws_eqIntS_1 (x0 : AV) (x1 : AV) (x5 : AV) (st : St) : L.loop [0, 1, 5] [4] b_laws_eqIntS_1 [x0, x1, x5] st =
  (aLen x0).bind fun v13_1 =>
  (aBin .lss x5 v13_1).bind fun v14_2 =>
  cnd v14_2
  ((aIaddr 1 x0 x5).bind fun v19_3 =>
  (aLoad false 1 st v19_3).bind fun v20_4 =>
  (aIaddr 1 x1 x5).bind fun v23_5 =>
  (aLoad false 1 st v23_5).bind fun v24_6 =>
  (aBin .neq v20_4 v24_6).bind fun v25_7 =>
  cnd v25_7
  (some (.ret, [(.bool false)], st))
  ((aBin .add x5 (.int .i64 1)).bind fun v16_8 =>
  L.loop [0, 1, 5] [4] b_laws_eqIntS_1 [x0, x1, v16_8] st))
  (some ((.exit 0), [.undef], st)) := (lim_loop F _ _ _ _ _).trans (by kernel_rfl)

theorem k_laws_eqIntS_1_ret (o4 : AV) (st : St) : k_laws_eqIntS_1 (.ret, [o4], st) =
  (resTup st o4).bind fun r => some (r, st.n) := by kernel_rfl

theorem k_laws_eqIntS_1_0 (o4 : AV) (st : St) : k_laws_eqIntS_1 ((.exit 0), [o4], st) =
  (resTup st (.bool true)).bind fun r => some (r, st.n) := by kernel_rfl

noncomputable def f_laws_markIntS : IFn := (F i_laws_markIntS).getD default

noncomputable def b_laws_markIntS_1 : ICode := loopAt f_laws_markIntS.code 0

noncomputable def k_laws_markIntS_1 : XT × List AV × St → Option (AV × Nat) := resK L f_laws_markIntS.code [true, false, true] (callK f_laws_markIntS.rs)

theorem call_laws_markIntS (a0 : AV) (a1 : AV) (n : Nat) : L.call i_laws_markIntS [a0, a1] n =
  (L.loop [0, 1, 5] [1, 4] b_laws_markIntS_1 [a0, a1, (.int .i64 0)] (st0 n)).bind k_laws_markIntS_1 := (lim_call F _ _ _).trans (by kernel_rfl)

theorem loop_laws_markIntS_1 (x0 : AV) (x1 : AV) (x5 : AV) (st : St) : L.loop [0, 1, 5] [1, 4] b_laws_markIntS_1 [x0, x1, x5] st =
  (aLen x0).bind fun v8_1 =>
  (aBin .lss x5 v8_1).bind fun v9_2 =>
  cnd v9_2
  ((aIaddr 1 x0 x5).bind fun v15_3 =>
  (aStore 1 v15_3 x1 st).bind fun vs_4 =>
  (aBin .add x1 (.int .i64 1)).bind fun v17_5 =>
  (aBin .add x5 (.int .i64 1)).bind fun v11_6 =>
  L.loop [0, 1, 5] [1, 4] b_laws_markIntS_1 [x0, v17_5, v11_6] vs_4)
  (some ((.exit 0), [x1, .undef], st)) := (lim_loop F _ _ _ _ _).trans (by kernel_rfl)

theorem k_laws_markIntS_1_0 (o1 : AV) (o4 : AV) (st : St) : k_laws_markIntS_1 ((.exit 0), [o1, o4], st) =
  (resTup st o1).bind fun r => some (r, st.n) := by kernel_rfl

noncomputable def k_laws_markIntS_1i : XT × List AV × St → Option (AV × St) := resK L f_laws_markIntS.code [true, false, true] (inlK f_laws_markIntS.rs)

theorem inl_laws_markIntS (a0 : AV) (a1 : AV) (st : St) : L.inl i_laws_markIntS [a0, a1] st =
  (L.loop [0, 1, 5] [1, 4] b_laws_markIntS_1 [a0, a1, (.int .i64 0)] st).bind k_laws_markIntS_1i := (lim_inl F _ _ _).trans (by kernel_rfl)

theorem k_laws_markIntS_1i_0 (o1 : AV) (o4 : AV) (st : St) : k_laws_markIntS_1i ((.exit 0), [o1, o4], st) =
  some (o1, st) := by kernel_rfl

noncomputable def f_laws_heldIntS : IFn := (F i_laws_heldIntS).getD default

noncomputable def b_laws_heldIntS_1 : ICode := loopAt f_laws_heldIntS.code 0

noncomputable def k_laws_heldIntS_1 : XT × List AV × St → Option (AV × Nat) := resK L f_laws_heldIntS.code [true, false, true] (callK f_laws_heldIntS.rs)

theorem call_laws_heldIntS (a0 : AV) (a1 : AV) (n : Nat) : L.call i_laws_heldIntS [a0, a1] n =
  (L.loop [0, 1, 5] [1, 4] b_laws_heldIntS_1 [a0, a1, (.int .i64 0)] (st0 n)).bind k_laws_heldIntS_1 := (lim_call F _ _ _).trans (by kernel_rfl)

theorem loop_laws_heldIntS_1 (x0 : AV) (x1 : AV) (x5 : AV) (st : St) : L.loop [0, 1, 5] [1, 4] b_laws_heldIntS_1 [x0, x1, x5] st =
  (aLen x0).bind fun v8_1 =>
  (aBin .lss x5 v8_1).bind fun v9_2 =>
  cnd v9_2
  ((aIaddr 1 x0 x5).bind fun v14_3 =>
  (aLoad false 1 st v14_3).bind fun v15_4 =>
  (aBin .neq v15_4 x1).bind fun v17_5 =>
  cnd v17_5
  (some (.ret, [x1, (.int .i64 (-1))], st))
  ((aBin .add x1 (.int .i64 1)).bind fun v19_6 =>
  (aBin .add x5 (.int .i64 1)).bind fun v11_7 =>
  L.loop [0, 1, 5] [1, 4] b_laws_heldIntS_1 [x0, v19_6, v11_7] st))
  (some ((.exit 0), [x1, .undef], st)) := (lim_loop F _ _ _ _ _).trans (by kernel_rfl)

theorem k_laws_heldIntS_1_ret (o1 : AV) (o4 : AV) (st : St) : k_laws_heldIntS_1 (.ret, [o1, o4], st) =
  (resTup st o4).bind fun r => some (r, st.n) := by kernel_rfl

theorem k_laws_heldIntS_1_0 (o1 : AV) (o4 : AV) (st : St) : k_laws_heldIntS_1 ((.exit 0), [o1, o4], st) =
  (resTup st o1).bind fun r => some (r, st.n) := by kernel_rfl

noncomputable def f_laws_szFactorS : IFn := (F i_laws_szFactorS).getD default

noncomputable def b_laws_szFactorS_1 : ICode := loopAt f_laws_szFactorS.code 0

noncomputable def k_laws_szFactorS_1 : XT × List AV × St → Option (AV × Nat) := resK L f_laws_szFactorS.code [true, true, true, false, true] (callK f_laws_szFactorS.rs)

theorem call_laws_szFactorS (a0 : AV) (a1 : AV) (n : Nat) : L.call i_laws_szFactorS [a0, a1] n =
  (aLen a0).bind fun v8_1 =>
  (aBin .sub a1 v8_1).bind fun v9_2 =>
  (aBin .lss v9_2 (.int .i64 0)).bind fun v11_3 =>
  cnd v11_3
  ((resTup (st0 n) (.int .i64 (-1))).bind fun r => some (r, (st0 n).n))
  ((L.loop [0, 1, 5] [1, 4] b_laws_szFactorS_1 [a0, v9_2, (.int .i64 0)] (st0 n)).bind k_laws_szFactorS_1) := (lim_call F _ _ _).trans (by kernel_rfl)

theorem loop_laws_szFactorS_1 (x0 : AV) (x1 : AV) (x5 : AV) (st : St) : L.loop [0, 1, 5] [1, 4] b_laws_szFactorS_1 [x0, x1, x5] st =
  (aLen x0).bind fun v14_1 =>
  (aBin .lss x5 v14_1).bind fun v15_2 =>
  cnd v15_2
  ((aIaddr 8 x0 x5).bind fun v20_3 =>
  (aLoad true 8 st v20_3).bind fun v21_4 =>
  (clV L i_laws_szFactor 0 [v21_4, x1] st).bind fun v23_5 =>
  (aBin .lss v23_5.1 (.int .i64 0)).bind fun v25_6 =>
  cnd v25_6
  (some (.ret, [v23_5.1, (.int .i64 (-1))], v23_5.2))
  ((aBin .add x5 (.int .i64 1)).bind fun v17_7 =>
  L.loop [0, 1, 5] [1, 4] b_laws_szFactorS_1 [x0, v23_5.1, v17_7] v23_5.2))
  (some ((.exit 0), [x1, .undef], st)) := (lim_loop F _ _ _ _ _).trans (by kernel_rfl)

theorem k_laws_szFactorS_1_ret (o1 : AV) (o4 : AV) (st : St) : k_laws_szFactorS_1 (.ret, [o1, o4], st) =
  (resTup st o4).bind fun r => some (r, st.n) := by kernel_rfl

theorem k_laws_szFactorS_1_0 (o1 : AV) (o4 : AV) (st : St) : k_laws_szFactorS_1 ((.exit 0), [o1, o4], st) =
  (resTup st o1).bind fun r => some (r, st.n) := by kernel_rfl

noncomputable def f_spec_OtherLoops : IFn := (F i_spec_OtherLoops).getD default

noncomputable def b_spec_OtherLoops_1 : ICode := loopAt f_spec_OtherLoops.code 0

noncomputable def k_spec_OtherLoops_1 : XT × List AV × St → Option (AV × Nat) := resK L f_spec_OtherLoops.code [true, true, false, true] (callK f_spec_OtherLoops.rs)

theorem call_spec_OtherLoops (a0 : AV) (a1 : AV) (n : Nat) : L.call i_spec_OtherLoops [a0, a1] n =
  mkLit 0 1 (.int .i64 0) [] (st0 n) fun v8_1 vs_2 =>
  (clV L i_spec_FactorIds 0 [a0, (.int .i64 4)] vs_2).bind fun v10_3 =>
  (aLen v10_3.1).bind fun v11_4 =>
  (L.loop [1, 5, 10, 11, 12] [4, 5] b_spec_OtherLoops_1 [a1, v8_1, v10_3.1, v11_4, (.int .i64 0)] v10_3.2).bind k_spec_OtherLoops_1 := (lim_call F _ _ _).trans (by kernel_rfl)

theorem loop_spec_OtherLoops_1 (x1 : AV) (x5 : AV) (x10 : AV) (x11 : AV) (x12 : AV) (st : St) : L.loop [1, 5, 10, 11, 12] [4, 5] b_spec_OtherLoops_1 [x1, x5, x10, x11, x12] st =
  (aBin .lss x12 x11).bind fun v13_1 =>
  cnd v13_1
  ((aIaddr 1 x10 x12).bind fun v14_2 =>
  (aLoad false 1 st v14_2).bind fun v15_3 =>
  (clV L i_spec_l07Has 0 [x1, v15_3] st).bind fun v18_4 =>
  (aUn .not v18_4.1).bind fun v19_5 =>
  cnd v19_5
  (mkLit 1 1 (.int .i64 0) [(0, v15_3)] v18_4.2 fun v22_6 vs_7 =>
  (aApp 1 x5 v22_6 vs_7).bind fun v23_8 =>
  (aBin .add x12 (.int .i64 1)).bind fun v24_9 =>
  L.loop [1, 5, 10, 11, 12] [4, 5] b_spec_OtherLoops_1 [x1, v23_8.1, x10, x11, v24_9] v23_8.2)
  ((aBin .add x12 (.int .i64 1)).bind fun v24_10 =>
  L.loop [1, 5, 10, 11, 12] [4, 5] b_spec_OtherLoops_1 [x1, x5, x10, x11, v24_10] v18_4.2))
  (some ((.exit 0), [.undef, x5], st)) := (lim_loop F _ _ _ _ _).trans (by kernel_rfl)

theorem k_spec_OtherLoops_1_0 (o4 : AV) (o5 : AV) (st : St) : k_spec_OtherLoops_1 ((.exit 0), [o4, o5], st) =
  (resTup st o5).bind fun r => some (r, st.n) := by kernel_rfl

noncomputable def f_laws_toFactorS : IFn := (F i_laws_toFactorS).getD default

noncomputable def b_laws_toFactorS_1 : ICode := loopAt f_laws_toFactorS.code 0

noncomputable def k_laws_toFactorS_1 : XT × List AV × St → Option (AV × Nat) := resK L f_laws_toFactorS.code [true, true, false, true] (callK f_laws_toFactorS.rs)

theorem call_laws_toFactorS (a0 : AV) (n : Nat) : L.call i_laws_toFactorS [a0] n =
  (aLen a0).bind fun v6_1 =>
  mkMake 8 zc_1 v6_1 v6_1 (st0 n) fun v7_2 vs_3 =>
  (L.loop [0, 3, 4] [2, 3] b_laws_toFactorS_1 [a0, v7_2, (.int .i64 0)] vs_3).bind k_laws_toFactorS_1 := (lim_call F _ _ _).trans (by kernel_rfl)

theorem loop_laws_toFactorS_1 (x0 : AV) (x3 : AV) (x4 : AV) (st : St) : L.loop [0, 3, 4] [2, 3] b_laws_toFactorS_1 [x0, x3, x4] st =
  (aLen x0).bind fun v10_1 =>
  (aBin .lss x4 v10_1).bind fun v11_2 =>
  cnd v11_2
  ((aIaddr 8 x0 x4).bind fun v18_3 =>
  (aLoad true 8 st v18_3).bind fun v19_4 =>
  (clV L i_laws_toFactor 0 [v19_4] st).bind fun v20_5 =>
  (aIaddr 8 x3 x4).bind fun v21_6 =>
  (aStore 8 v21_6 v20_5.1 v20_5.2).bind fun vs_7 =>
  (aBin .add x4 (.int .i64 1)).bind fun v13_8 =>
  L.loop [0, 3, 4] [2, 3] b_laws_toFactorS_1 [x0, x3, v13_8] vs_7)
  (some ((.exit 0), [.undef, x3], st)) := (lim_loop F _ _ _ _ _).trans (by kernel_rfl)

theorem k_laws_toFactorS_1_0 (o2 : AV) (o3 : AV) (st : St) : k_laws_toFactorS_1 ((.exit 0), [o2, o3], st) =
  (resTup st o3).bind fun r => some (r, st.n) := by kernel_rfl

noncomputable def f_laws_toIntS : IFn := (F i_laws_toIntS).getD default

noncomputable def b_laws_toIntS_1 : ICode := loopAt f_laws_toIntS.code 0

noncomputable def k_laws_toIntS_1 : XT × List AV × St → Option (AV × Nat) := resK L f_laws_toIntS.code [true, true, false, true] (callK f_laws_toIntS.rs)

theorem call_laws_toIntS (a0 : AV) (n : Nat) : L.call i_laws_toIntS [a0] n =
  (aLen a0).bind fun v6_1 =>
  mkMake 1 (.int .i64 0) v6_1 v6_1 (st0 n) fun v7_2 vs_3 =>
  (L.loop [0, 3, 4] [2, 3] b_laws_toIntS_1 [a0, v7_2, (.int .i64 0)] vs_3).bind k_laws_toIntS_1 := (lim_call F _ _ _).trans (by kernel_rfl)

theorem loop_laws_toIntS_1 (x0 : AV) (x3 : AV) (x4 : AV) (st : St) : L.loop [0, 3, 4] [2, 3] b_laws_toIntS_1 [x0, x3, x4] st =
  (aLen x0).bind fun v10_1 =>
  (aBin .lss x4 v10_1).bind fun v11_2 =>
  cnd v11_2
  ((aIaddr 1 x0 x4).bind fun v18_3 =>
  (aLoad false 1 st v18_3).bind fun v19_4 =>
  (aIaddr 1 x3 x4).bind fun v20_5 =>
  (aStore 1 v20_5 v19_4 st).bind fun vs_6 =>
  (aBin .add x4 (.int .i64 1)).bind fun v13_7 =>
  L.loop [0, 3, 4] [2, 3] b_laws_toIntS_1 [x0, x3, v13_7] vs_6)
  (some ((.exit 0), [.undef, x3], st)) := (lim_loop F _ _ _ _ _).trans (by kernel_rfl)

theorem k_laws_toIntS_1_0 (o2 : AV) (o3 : AV) (st : St) : k_laws_toIntS_1 ((.exit 0), [o2, o3], st) =
  (resTup st o3).bind fun r => some (r, st.n) := by kernel_rfl

noncomputable def f_impl_OtherLoops : IFn := (F i_impl_OtherLoops).getD default

noncomputable def b_impl_OtherLoops_1 : ICode := loopAt f_impl_OtherLoops.code 0

noncomputable def k_impl_OtherLoops_1 : XT × List AV × St → Option (AV × Nat) := resK L f_impl_OtherLoops.code [true, true, false, true] (callK f_impl_OtherLoops.rs)

theorem call_impl_OtherLoops (a0 : AV) (a1 : AV) (n : Nat) : L.call i_impl_OtherLoops [a0, a1] n =
  mkLit 0 1 (.int .i64 0) [] (st0 n) fun v8_1 vs_2 =>
  (clV L i_impl_FactorIds 0 [a0, (.int .i64 4)] vs_2).bind fun v10_3 =>
  (aLen v10_3.1).bind fun v11_4 =>
  (L.loop [1, 5, 10, 11, 12] [4, 5] b_impl_OtherLoops_1 [a1, v8_1, v10_3.1, v11_4, (.int .i64 0)] v10_3.2).bind k_impl_OtherLoops_1 := (lim_call F _ _ _).trans (by kernel_rfl)

theorem loop_impl_OtherLoops_1 (x1 : AV) (x5 : AV) (x10 : AV) (x11 : AV) (x12 : AV) (st : St) : L.loop [1, 5, 10, 11, 12] [4, 5] b_impl_OtherLoops_1 [x1, x5, x10, x11, x12] st =
  (aBin .lss x12 x11).bind fun v13_1 =>
  cnd v13_1
  ((aIaddr 1 x10 x12).bind fun v14_2 =>
  (aLoad false 1 st v14_2).bind fun v15_3 =>
  (clV L i_impl_hasInt 0 [x1, v15_3] st).bind fun v18_4 =>
  (aUn .not v18_4.1).bind fun v19_5 =>
  cnd v19_5
  (mkLit 1 1 (.int .i64 0) [(0, v15_3)] v18_4.2 fun v22_6 vs_7 =>
  (aApp 1 x5 v22_6 vs_7).bind fun v23_8 =>
  (aBin .add x12 (.int .i64 1)).bind fun v24_9 =>
  L.loop [1, 5, 10, 11, 12] [4, 5] b_impl_OtherLoops_1 [x1, v23_8.1, x10, x11, v24_9] v23_8.2)
  ((aBin .add x12 (.int .i64 1)).bind fun v24_10 =>
  L.loop [1, 5, 10, 11, 12] [4, 5] b_impl_OtherLoops_1 [x1, x5, x10, x11, v24_10] v18_4.2))
  (some ((.exit 0), [.undef, x5], st)) := (lim_loop F _ _ _ _ _).trans (by kernel_rfl)

theorem k_impl_OtherLoops_1_0 (o4 : AV) (o5 : AV) (st : St) : k_impl_OtherLoops_1 ((.exit 0), [o4, o5], st) =
  (resTup st o5).bind fun r => some (r, st.n) := by kernel_rfl

noncomputable def f_laws_eqFactorS : IFn := (F i_laws_eqFactorS).getD default

noncomputable def b_laws_eqFactorS_1 : ICode := loopAt f_laws_eqFactorS.code 0

noncomputable def k_laws_eqFactorS_1 : XT × List AV × St → Option (AV × Nat) := resK L f_laws_eqFactorS.code [true, true, false, true] (callK f_laws_eqFactorS.rs)

theorem call_laws_eqFactorS (a0 : AV) (a1 : AV) (n : Nat) : L.call i_laws_eqFactorS [a0, a1] n =
  (aLen a0).bind fun v7_1 =>
  (aLen a1).bind fun v9_2 =>
  (aBin .neq v7_1 v9_2).bind fun v10_3 =>
  cnd v10_3
  ((resTup (st0 n) (.bool false)).bind fun r => some (r, (st0 n).n))
  ((L.loop [0, 1, 5] [4] b_laws_eqFactorS_1 [a0, a1, (.int .i64 0)] (st0 n)).bind k_laws_eqFactorS_1) := (lim_call F _ _ _).trans (by kernel_rfl)

theorem loop_laws_eqFactorS_1 (x0 : AV) (x1 : AV) (x5 : AV) (st : St) : L.loop [0, 1, 5] [4] b_laws_eqFactorS_1 [x0, x1, x5] st =
  (aLen x0).bind fun v13_1 =>
  (aBin .lss x5 v13_1).bind fun v14_2 =>
  cnd v14_2
  ((aIaddr 8 x0 x5).bind fun v19_3 =>
  (aLoad true 8 st v19_3).bind fun v20_4 =>
  (aIaddr 8 x1 x5).bind fun v23_5 =>
  (aLoad true 8 st v23_5).bind fun v24_6 =>
  (clV L i_laws_eqFactor 0 [v20_4, v24_6] st).bind fun v25_7 =>
  (aUn .not v25_7.1).bind fun v26_8 =>
  cnd v26_8
  (some (.ret, [(.bool false)], v25_7.2))
  ((aBin .add x5 (.int .i64 1)).bind fun v16_9 =>
  L.loop [0, 1, 5] [4] b_laws_eqFactorS_1 [x0, x1, v16_9] v25_7.2))
  (some ((.exit 0), [.undef], st)) := (lim_loop F _ _ _ _ _).trans (by kernel_rfl)

theorem k_laws_eqFactorS_1_ret (o4 : AV) (st : St) : k_laws_eqFactorS_1 (.ret, [o4], st) =
  (resTup st o4).bind fun r => some (r, st.n) := by kernel_rfl

theorem k_laws_eqFactorS_1_0 (o4 : AV) (st : St) : k_laws_eqFactorS_1 ((.exit 0), [o4], st) =
  (resTup st (.bool true)).bind fun r => some (r, st.n) := by kernel_rfl

noncomputable def f_laws_markFactorS : IFn := (F i_laws_markFactorS).getD default

noncomputable def b_laws_markFactorS_1 : ICode := loopAt f_laws_markFactorS.code 0

noncomputable def k_laws_markFactorS_1 : XT × List AV × St → Option (AV × Nat) := resK L f_laws_markFactorS.code [true, false, true] (callK f_laws_markFactorS.rs)

theorem call_laws_markFactorS (a0 : AV) (a1 : AV) (n : Nat) : L.call i_laws_markFactorS [a0, a1] n =
  (L.loop [0, 1, 5] [1, 4] b_laws_markFactorS_1 [a0, a1, (.int .i64 0)] (st0 n)).bind k_laws_markFactorS_1 := (lim_call F _ _ _).trans (by kernel_rfl)

theorem loop_laws_markFactorS_1 (x0 : AV) (x1 : AV) (x5 : AV) (st : St) : L.loop [0, 1, 5] [1, 4] b_laws_markFactorS_1 [x0, x1, x5] st =
  (aLen x0).bind fun v8_1 =>
  (aBin .lss x5 v8_1).bind fun v9_2 =>
  cnd v9_2
  ((aIaddr 8 x0 x5).bind fun v15_3 =>
  (aFaddr 0 v15_3).bind fun v16_4 =>
  (aStore 1 v16_4 x1 st).bind fun vs_5 =>
  (aBin .add x1 (.int .i64 1)).bind fun v18_6 =>
  (aIaddr 8 x0 x5).bind fun v22_7 =>
  (aFaddr 1 v22_7).bind fun v23_8 =>
  (aStore 1 v23_8 v18_6 vs_5).bind fun vs_9 =>
  (aBin .add v18_6 (.int .i64 1)).bind fun v25_10 =>
  (clV L i_laws_markText 0 [v25_10] vs_9).bind fun v29_11 =>
  (aIaddr 8 x0 x5).bind fun v30_12 =>
  (aFaddr 2 v30_12).bind fun v31_13 =>
  (aStore 1 v31_13 v29_11.1 v29_11.2).bind fun vs_14 =>
  (aBin .add v25_10 (.int .i64 1)).bind fun v33_15 =>
  (clV L i_laws_markText 0 [v33_15] vs_14).bind fun v37_16 =>
  (aIaddr 8 x0 x5).bind fun v38_17 =>
  (aFaddr 3 v38_17).bind fun v39_18 =>
  (aStore 1 v39_18 v37_16.1 v37_16.2).bind fun vs_19 =>
  (aBin .add v33_15 (.int .i64 1)).bind fun v41_20 =>
  (aIaddr 8 x0 x5).bind fun v45_21 =>
  (aFaddr 4 v45_21).bind fun v46_22 =>
  (aFaddr 0 v46_22).bind fun v47_23 =>
  (aStore 1 v47_23 v41_20 vs_19).bind fun vs_24 =>
  (aBin .add v41_20 (.int .i64 1)).bind fun v49_25 =>
  (aIaddr 8 x0 x5).bind fun v53_26 =>
  (aFaddr 4 v53_26).bind fun v54_27 =>
  (aFaddr 1 v54_27).bind fun v55_28 =>
  (aStore 1 v55_28 v49_25 vs_24).bind fun vs_29 =>
  (aBin .add v49_25 (.int .i64 1)).bind fun v57_30 =>
  (aIaddr 8 x0 x5).bind fun v61_31 =>
  (aFaddr 4 v61_31).bind fun v62_32 =>
  (aFaddr 2 v62_32).bind fun v63_33 =>
  (aStore 1 v63_33 v57_30 vs_29).bind fun vs_34 =>
  (aBin .add v57_30 (.int .i64 1)).bind fun v65_35 =>
  (aIaddr 8 x0 x5).bind fun v69_36 =>
  (aFaddr 7 v69_36).bind fun v70_37 =>
  (aStore 1 v70_37 v65_35 vs_34).bind fun vs_38 =>
  (aBin .add v65_35 (.int .i64 1)).bind fun v72_39 =>
  (aBin .add x5 (.int .i64 1)).bind fun v11_40 =>
  L.loop [0, 1, 5] [1, 4] b_laws_markFactorS_1 [x0, v72_39, v11_40] vs_38)
  (some ((.exit 0), [x1, .undef], st)) := (lim_loop F _ _ _ _ _).trans (by kernel_rfl)

theorem k_laws_markFactorS_1_0 (o1 : AV) (o4 : AV) (st : St) : k_laws_markFactorS_1 ((.exit 0), [o1, o4], st) =
  (resTup st o1).bind fun r => some (r, st.n) := by kernel_rfl

noncomputable def k_laws_markFactorS_1i : XT × List AV × St → Option (AV × St) := resK L f_laws_markFactorS.code [true, false, true] (inlK f_laws_markFactorS.rs)

theorem inl_laws_markFactorS (a0 : AV) (a1 : AV) (st : St) : L.inl i_laws_markFactorS [a0, a1] st =
  (L.loop [0, 1, 5] [1, 4] b_laws_markFactorS_1 [a0, a1, (.int .i64 0)] st).bind k_laws_markFactorS_1i := (lim_inl F _ _ _).trans (by kernel_rfl)

theorem k_laws_markFactorS_1i_0 (o1 : AV) (o4 : AV) (st : St) : k_laws_markFactorS_1i ((.exit 0), [o1, o4], st) =
  some (o1, st) := by kernel_rfl

noncomputable def f_laws_eqFactor : IFn := (F i_laws_eqFactor).getD default

theorem call_laws_eqFactor (a0 : AV) (a1 : AV) (n : Nat) : L.call i_laws_eqFactor [a0, a1] n =
  mkNew a0 (st0 n) fun v2_1 vs_2 =>
  mkNew a1 vs_2 fun v3_3 vs_4 =>
  (aFaddr 0 v2_1).bind fun v5_5 =>
  (aLoad false 1 vs_4 v5_5).bind fun v6_6 =>
  (aFaddr 0 v3_3).bind fun v7_7 =>
  (aLoad false 1 vs_4 v7_7).bind fun v8_8 =>
  (aBin .neq v6_6 v8_8).bind fun v9_9 =>
  cnd v9_9
  ((resTup vs_4 (.bool false)).bind fun r => some (r, vs_4.n))
  ((aFaddr 1 v2_1).bind fun v10_10 =>
  (aLoad false 1 vs_4 v10_10).bind fun v11_11 =>
  (aFaddr 1 v3_3).bind fun v12_12 =>
  (aLoad false 1 vs_4 v12_12).bind fun v13_13 =>
  (aBin .neq v11_11 v13_13).bind fun v14_14 =>
  cnd v14_14
  ((resTup vs_4 (.bool false)).bind fun r => some (r, vs_4.n))
  ((aFaddr 2 v2_1).bind fun v15_15 =>
  (aLoad false 1 vs_4 v15_15).bind fun v16_16 =>
  (aFaddr 2 v3_3).bind fun v17_17 =>
  (aLoad false 1 vs_4 v17_17).bind fun v18_18 =>
  (aBin .neq v16_16 v18_18).bind fun v19_19 =>
  cnd v19_19
  ((resTup vs_4 (.bool false)).bind fun r => some (r, vs_4.n))
  ((aFaddr 3 v2_1).bind fun v20_20 =>
  (aLoad false 1 vs_4 v20_20).bind fun v21_21 =>
  (aFaddr 3 v3_3).bind fun v22_22 =>
  (aLoad false 1 vs_4 v22_22).bind fun v23_23 =>
  (aBin .neq v21_21 v23_23).bind fun v24_24 =>
  cnd v24_24
  ((resTup vs_4 (.bool false)).bind fun r => some (r, vs_4.n))
  ((aFaddr 4 v2_1).bind fun v25_25 =>
  (aLoad true 3 vs_4 v25_25).bind fun v26_26 =>
  (aFaddr 4 v3_3).bind fun v27_27 =>
  (aLoad true 3 vs_4 v27_27).bind fun v28_28 =>
  (clV L i_laws_eqPose 0 [v26_26, v28_28] vs_4).bind fun v29_29 =>
  (aUn .not v29_29.1).bind fun v30_30 =>
  cnd v30_30
  ((resTup v29_29.2 (.bool false)).bind fun r => some (r, v29_29.2.n))
  ((aFaddr 7 v2_1).bind fun v31_31 =>
  (aLoad false 1 v29_29.2 v31_31).bind fun v32_32 =>
  (aFaddr 7 v3_3).bind fun v33_33 =>
  (aLoad false 1 v29_29.2 v33_33).bind fun v34_34 =>
  (aBin .neq v32_32 v34_34).bind fun v35_35 =>
  cnd v35_35
  ((resTup v29_29.2 (.bool false)).bind fun r => some (r, v29_29.2.n))
  ((resTup v29_29.2 (.bool true)).bind fun r => some (r, v29_29.2.n))))))) := (lim_call F _ _ _).trans (by kernel_rfl)

noncomputable def f_laws_eqPose : IFn := (F i_laws_eqPose).getD default

theorem call_laws_eqPose (a0 : AV) (a1 : AV) (n : Nat) : L.call i_laws_eqPose [a0, a1] n =
  mkNew a0 (st0 n) fun v2_1 vs_2 =>
  mkNew a1 vs_2 fun v3_3 vs_4 =>
  (aFaddr 0 v2_1).bind fun v5_5 =>
  (aLoad false 1 vs_4 v5_5).bind fun v6_6 =>
  (aFaddr 0 v3_3).bind fun v7_7 =>
  (aLoad false 1 vs_4 v7_7).bind fun v8_8 =>
  (aBin .neq v6_6 v8_8).bind fun v9_9 =>
  cnd v9_9
  ((resTup vs_4 (.bool false)).bind fun r => some (r, vs_4.n))
  ((aFaddr 1 v2_1).bind fun v10_10 =>
  (aLoad false 1 vs_4 v10_10).bind fun v11_11 =>
  (aFaddr 1 v3_3).bind fun v12_12 =>
  (aLoad false 1 vs_4 v12_12).bind fun v13_13 =>
  (aBin .neq v11_11 v13_13).bind fun v14_14 =>
  cnd v14_14
  ((resTup vs_4 (.bool false)).bind fun r => some (r, vs_4.n))
  ((aFaddr 2 v2_1).bind fun v15_15 =>
  (aLoad false 1 vs_4 v15_15).bind fun v16_16 =>
  (aFaddr 2 v3_3).bind fun v17_17 =>
  (aLoad false 1 vs_4 v17_17).bind fun v18_18 =>
  (aBin .neq v16_16 v18_18).bind fun v19_19 =>
  cnd v19_19
  ((resTup vs_4 (.bool false)).bind fun r => some (r, vs_4.n))
  ((resTup vs_4 (.bool true)).bind fun r => some (r, vs_4.n)))) := (lim_call F _ _ _).trans (by kernel_rfl)

noncomputable def f_impl_FactorIds : IFn := (F i_impl_FactorIds).getD default

noncomputable def b_impl_FactorIds_1 : ICode := loopAt f_impl_FactorIds.code 0

noncomputable def k_impl_FactorIds_1 : XT × List AV × St → Option (AV × Nat) := resK L f_impl_FactorIds.code [true, true, false, true] (callK f_impl_FactorIds.rs)

theorem call_impl_FactorIds (a0 : AV) (a1 : AV) (n : Nat) : L.call i_impl_FactorIds [a0, a1] n =
  mkLit 0 1 (.int .i64 0) [] (st0 n) fun v8_1 vs_2 =>
  (aLen a0).bind fun v10_3 =>
  (L.loop [1, 5, 9, 10, 11] [4, 5] b_impl_FactorIds_1 [a1, v8_1, a0, v10_3, (.int .i64 0)] vs_2).bind k_impl_FactorIds_1 := (lim_call F _ _ _).trans (by kernel_rfl)

theorem loop_impl_FactorIds_1 (x1 : AV) (x5 : AV) (x9 : AV) (x10 : AV) (x11 : AV) (st : St) : L.loop [1, 5, 9, 10, 11] [4, 5] b_impl_FactorIds_1 [x1, x5, x9, x10, x11] st =
  (aBin .lss x11 x10).bind fun v12_1 =>
  cnd v12_1
  ((aIaddr 8 x9 x11).bind fun v13_2 =>
  (aLoad true 8 st v13_2).bind fun v14_3 =>
  mkNew zc_1 st fun v7_4 vs_5 =>
  (aStore 8 v7_4 v14_3 vs_5).bind fun vs_6 =>
  (aFaddr 1 v7_4).bind fun v15_7 =>
  (aLoad false 1 vs_6 v15_7).bind fun v16_8 =>
  (aBin .eql v16_8 x1).bind fun v18_9 =>
  cnd v18_9
  ((aFaddr 0 v7_4).bind fun v20_10 =>
  (aLoad false 1 vs_6 v20_10).bind fun v21_11 =>
  mkLit 1 1 (.int .i64 0) [(0, v21_11)] vs_6 fun v22_12 vs_13 =>
  (aApp 1 x5 v22_12 vs_13).bind fun v23_14 =>
  (aBin .add x11 (.int .i64 1)).bind fun v24_15 =>
  L.loop [1, 5, 9, 10, 11] [4, 5] b_impl_FactorIds_1 [x1, v23_14.1, x9, x10, v24_15] v23_14.2)
  ((aBin .add x11 (.int .i64 1)).bind fun v24_16 =>
  L.loop [1, 5, 9, 10, 11] [4, 5] b_impl_FactorIds_1 [x1, x5, x9, x10, v24_16] vs_6))
  (some ((.exit 0), [.undef, x5], st)) := (lim_loop F _ _ _ _ _).trans (by kernel_rfl)

theorem k_impl_FactorIds_1_0 (o4 : AV) (o5 : AV) (st : St) : k_impl_FactorIds_1 ((.exit 0), [o4, o5], st) =
  (resTup st o5).bind fun r => some (r, st.n) := by kernel_rfl

noncomputable def f_impl_hasInt : IFn := (F i_impl_hasInt).getD default

noncomputable def b_impl_hasInt_1 : ICode := loopAt f_impl_hasInt.code 0

noncomputable def k_impl_hasInt_1 : XT × List AV × St → Option (AV × Nat) := resK L f_impl_hasInt.code [true, false, true] (callK f_impl_hasInt.rs)

theorem call_impl_hasInt (a0 : AV) (a1 : AV) (n : Nat) : L.call i_impl_hasInt [a0, a1] n =
  (aLen a0).bind fun v8_1 =>
  (L.loop [1, 7, 8, 9] [4] b_impl_hasInt_1 [a1, a0, v8_1, (.int .i64 0)] (st0 n)).bind k_impl_hasInt_1 := (lim_call F _ _ _).trans (by kernel_rfl)

theorem loop_impl_hasInt_1 (x1 : AV) (x7 : AV) (x8 : AV) (x9 : AV) (st : St) : L.loop [1, 7, 8, 9] [4] b_impl_hasInt_1 [x1, x7, x8, x9] st =
  (aBin .lss x9 x8).bind fun v10_1 =>
  cnd v10_1
  ((aIaddr 1 x7 x9).bind fun v11_2 =>
  (aLoad false 1 st v11_2).bind fun v12_3 =>
  (aBin .eql v12_3 x1).bind fun v15_4 =>
  cnd v15_4
  (some (.ret, [(.bool true)], st))
  ((aBin .add x9 (.int .i64 1)).bind fun v16_5 =>
  L.loop [1, 7, 8, 9] [4] b_impl_hasInt_1 [x1, x7, x8, v16_5] st))
  (some ((.exit 0), [.undef], st)) := (lim_loop F _ _ _ _ _).trans (by kernel_rfl)

theorem k_impl_hasInt_1_ret (o4 : AV) (st : St) : k_impl_hasInt_1 (.ret, [o4], st) =
  (resTup st o4).bind fun r => some (r, st.n) := by kernel_rfl

theorem k_impl_hasInt_1_0 (o4 : AV) (st : St) : k_impl_hasInt_1 ((.exit 0), [o4], st) =
  (resTup st (.bool false)).bind fun r => some (r, st.n) := by kernel_rfl

noncomputable def f_laws_szFactor : IFn := (F i_laws_szFactor).getD default

theorem call_laws_szFactor (a0 : AV) (a1 : AV) (n : Nat) : L.call i_laws_szFactor [a0, a1] n =
  mkNew a0 (st0 n) fun v2_1 vs_2 =>
  (aFaddr 2 v2_1).bind fun v6_3 =>
  (aLoad false 1 vs_2 v6_3).bind fun v7_4 =>
  (aSlen v7_4).bind fun v8_5 =>
  (aBin .sub a1 v8_5).bind fun v9_6 =>
  (aBin .lss v9_6 (.int .i64 0)).bind fun v11_7 =>
  cnd v11_7
  ((resTup vs_2 (.int .i64 (-1))).bind fun r => some (r, vs_2.n))
  ((aFaddr 3 v2_1).bind fun v13_8 =>
  (aLoad false 1 vs_2 v13_8).bind fun v14_9 =>
  (aSlen v14_9).bind fun v15_10 =>
  (aBin .sub v9_6 v15_10).bind fun v16_11 =>
  (aBin .lss v16_11 (.int .i64 0)).bind fun v18_12 =>
  cnd v18_12
  ((resTup vs_2 (.int .i64 (-1))).bind fun r => some (r, vs_2.n))
  ((resTup vs_2 v16_11).bind fun r => some (r, vs_2.n))) := (lim_call F _ _ _).trans (by kernel_rfl)

noncomputable def f_spec_FactorIds : IFn := (F i_spec_FactorIds).getD default

noncomputable def b_spec_FactorIds_1 : ICode := loopAt f_spec_FactorIds.code 0

noncomputable def k_spec_FactorIds_1 : XT × List AV × St → Option (AV × Nat) := resK L f_spec_FactorIds.code [true, true, false, true] (callK f_spec_FactorIds.rs)

theorem call_spec_FactorIds (a0 : AV) (a1 : AV) (n : Nat) : L.call i_spec_FactorIds [a0, a1] n =
  mkLit 0 1 (.int .i64 0) [] (st0 n) fun v8_1 vs_2 =>
  (aLen a0).bind fun v10_3 =>
  (L.loop [1, 5, 9, 10, 11] [4, 5] b_spec_FactorIds_1 [a1, v8_1, a0, v10_3, (.int .i64 0)] vs_2).bind k_spec_FactorIds_1 := (lim_call F _ _ _).trans (by kernel_rfl)

theorem loop_spec_FactorIds_1 (x1 : AV) (x5 : AV) (x9 : AV) (x10 : AV) (x11 : AV) (st : St) : L.loop [1, 5, 9, 10, 11] [4, 5] b_spec_FactorIds_1 [x1, x5, x9, x10, x11] st =
  (aBin .lss x11 x10).bind fun v12_1 =>
  cnd v12_1
  ((aIaddr 8 x9 x11).bind fun v13_2 =>
  (aLoad true 8 st v13_2).bind fun v14_3 =>
  mkNew zc_1 st fun v7_4 vs_5 =>
  (aStore 8 v7_4 v14_3 vs_5).bind fun vs_6 =>
  (aFaddr 1 v7_4).bind fun v15_7 =>
  (aLoad false 1 vs_6 v15_7).bind fun v16_8 =>
  (aBin .eql v16_8 x1).bind fun v18_9 =>
  cnd v18_9
  ((aFaddr 0 v7_4).bind fun v20_10 =>
  (aLoad false 1 vs_6 v20_10).bind fun v21_11 =>
  mkLit 1 1 (.int .i64 0) [(0, v21_11)] vs_6 fun v22_12 vs_13 =>
  (aApp 1 x5 v22_12 vs_13).bind fun v23_14 =>
  (aBin .add x11 (.int .i64 1)).bind fun v24_15 =>
  L.loop [1, 5, 9, 10, 11] [4, 5] b_spec_FactorIds_1 [x1, v23_14.1, x9, x10, v24_15] v23_14.2)
  ((aBin .add x11 (.int .i64 1)).bind fun v24_16 =>
  L.loop [1, 5, 9, 10, 11] [4, 5] b_spec_FactorIds_1 [x1, x5, x9, x10, v24_16] vs_6))
  (some ((.exit 0), [.undef, x5], st)) := (lim_loop F _ _ _ _ _).trans (by kernel_rfl)

theorem k_spec_FactorIds_1_0 (o4 : AV) (o5 : AV) (st : St) : k_spec_FactorIds_1 ((.exit 0), [o4, o5], st) =
  (resTup st o5).bind fun r => some (r, st.n) := by kernel_rfl

noncomputable def f_spec_l07Has : IFn := (F i_spec_l07Has).getD default

noncomputable def b_spec_l07Has_1 : ICode := loopAt f_spec_l07Has.code 0

noncomputable def k_spec_l07Has_1 : XT × List AV × St → Option (AV × Nat) := resK L f_spec_l07Has.code [true, false, true] (callK f_spec_l07Has.rs)

theorem call_spec_l07Has (a0 : AV) (a1 : AV) (n : Nat) : L.call i_spec_l07Has [a0, a1] n =
  (aLen a0).bind fun v8_1 =>
  (L.loop [1, 7, 8, 9] [4] b_spec_l07Has_1 [a1, a0, v8_1, (.int .i64 0)] (st0 n)).bind k_spec_l07Has_1 := (lim_call F _ _ _).trans (by kernel_rfl)

theorem loop_spec_l07Has_1 (x1 : AV) (x7 : AV) (x8 : AV) (x9 : AV) (st : St) : L.loop [1, 7, 8, 9] [4] b_spec_l07Has_1 [x1, x7, x8, x9] st =
  (aBin .lss x9 x8).bind fun v10_1 =>
  cnd v10_1
  ((aIaddr 1 x7 x9).bind fun v11_2 =>
  (aLoad false 1 st v11_2).bind fun v12_3 =>
  (aBin .eql v12_3 x1).bind fun v15_4 =>
  cnd v15_4
  (some (.ret, [(.bool true)], st))
  ((aBin .add x9 (.int .i64 1)).bind fun v16_5 =>
  L.loop [1, 7, 8, 9] [4] b_spec_l07Has_1 [x1, x7, x8, v16_5] st))
  (some ((.exit 0), [.undef], st)) := (lim_loop F _ _ _ _ _).trans (by kernel_rfl)

theorem k_spec_l07Has_1_ret (o4 : AV) (st : St) : k_spec_l07Has_1 (.ret, [o4], st) =
  (resTup st o4).bind fun r => some (r, st.n) := by kernel_rfl

theorem k_spec_l07Has_1_0 (o4 : AV) (st : St) : k_spec_l07Has_1 ((.exit 0), [o4], st) =
  (resTup st (.bool false)).bind fun r => some (r, st.n) := by kernel_rfl

noncomputable def f_laws_toFactor : IFn := (F i_laws_toFactor).getD default

theorem call_laws_toFactor (a0 : AV) (n : Nat) : L.call i_laws_toFactor [a0] n =
  mkNew a0 (st0 n) fun v1_1 vs_2 =>
  mkNew zc_1 vs_2 fun v2_3 vs_4 =>
  mkNew zc_1 vs_4 fun v3_5 vs_6 =>
  (aFaddr 0 v1_1).bind fun v4_7 =>
  (aLoad false 1 vs_6 v4_7).bind fun v5_8 =>
  (aFaddr 0 v3_5).bind fun v6_9 =>
  (aStore 1 v6_9 v5_8 vs_6).bind fun vs_10 =>
  (aFaddr 1 v1_1).bind fun v7_11 =>
  (aLoad false 1 vs_10 v7_11).bind fun v8_12 =>
  (aFaddr 1 v3_5).bind fun v9_13 =>
  (aStore 1 v9_13 v8_12 vs_10).bind fun vs_14 =>
  (aFaddr 2 v1_1).bind fun v10_15 =>
  (aLoad false 1 vs_14 v10_15).bind fun v11_16 =>
  (aFaddr 2 v3_5).bind fun v12_17 =>
  (aStore 1 v12_17 v11_16 vs_14).bind fun vs_18 =>
  (aFaddr 3 v1_1).bind fun v13_19 =>
  (aLoad false 1 vs_18 v13_19).bind fun v14_20 =>
  (aFaddr 3 v3_5).bind fun v15_21 =>
  (aStore 1 v15_21 v14_20 vs_18).bind fun vs_22 =>
  (aFaddr 4 v1_1).bind fun v16_23 =>
  (aLoad true 3 vs_22 v16_23).bind fun v17_24 =>
  (clV L i_laws_toPose 0 [v17_24] vs_22).bind fun v18_25 =>
  (aFaddr 4 v3_5).bind fun v19_26 =>
  (aStore 3 v19_26 v18_25.1 v18_25.2).bind fun vs_27 =>
  (aFaddr 7 v1_1).bind fun v20_28 =>
  (aLoad false 1 vs_27 v20_28).bind fun v21_29 =>
  (aFaddr 7 v3_5).bind fun v22_30 =>
  (aStore 1 v22_30 v21_29 vs_27).bind fun vs_31 =>
  (aLoad true 8 vs_31 v3_5).bind fun v23_32 =>
  (aStore 8 v2_3 v23_32 vs_31).bind fun vs_33 =>
  ((aLoad true 8 vs_33 v2_3).bind fun vr_34 =>
  some (vr_34 :: [])).bind fun vs =>
  (resTup vs_33 (retV vs)).bind fun r => some (r, vs_33.n) := (lim_call F _ _ _).trans (by kernel_rfl)

noncomputable def f_laws_markText : IFn := (F i_laws_markText).getD default

noncomputable def b_laws_markText_1 : ICode := loopAt f_laws_markText.code 0

noncomputable def k_laws_markText_1 : XT × List AV × St → Option (AV × Nat) := resK L f_laws_markText.code [true, true, true, false] (callK f_laws_markText.rs)

theorem call_laws_markText (a0 : AV) (n : Nat) : L.call i_laws_markText [a0] n =
  (aBin .leq a0 (.int .i64 0)).bind fun v5_1 =>
  cnd v5_1
  ((resTup (st0 n) (.str ⟨#[109, 48]⟩)).bind fun r => some (r, (st0 n).n))
  ((L.loop [0, 3] [2, 3] b_laws_markText_1 [a0, (.str ⟨#[]⟩)] (st0 n)).bind k_laws_markText_1) := (lim_call F _ _ _).trans (by kernel_rfl)

theorem loop_laws_markText_1 (x0 : AV) (x3 : AV) (st : St) : L.loop [0, 3] [2, 3] b_laws_markText_1 [x0, x3] st =
  (aBin .gtr x0 (.int .i64 0)).bind fun v7_1 =>
  cnd v7_1
  ((aBin .rem x0 (.int .i64 10)).bind fun v9_2 =>
  (aBin .add (.int .i64 48) v9_2).bind fun v10_3 =>
  (aConv .u8 v10_3).bind fun v11_4 =>
  mkLit 1 1 (.int .u8 0) [(0, v11_4)] st fun v12_5 vs_6 =>
  (aB2s vs_6 v12_5).bind fun v13_7 =>
  (aBin .add v13_7 x3).bind fun v15_8 =>
  (aBin .quo x0 (.int .i64 10)).bind fun v17_9 =>
  L.loop [0, 3] [2, 3] b_laws_markText_1 [v17_9, v15_8] vs_6)
  (some ((.exit 0), [.undef, x3], st)) := (lim_loop F _ _ _ _ _).trans (by kernel_rfl)

theorem k_laws_markText_1_0 (o2 : AV) (o3 : AV) (st : St) : k_laws_markText_1 ((.exit 0), [o2, o3], st) =
  (aBin .add (.str ⟨#[109]⟩) o3).bind fun v19_1 =>
  (resTup st v19_1).bind fun r => some (r, st.n) := by kernel_rfl

noncomputable def f_laws_toPose : IFn := (F i_laws_toPose).getD default

theorem call_laws_toPose (a0 : AV) (n : Nat) : L.call i_laws_toPose [a0] n =
  mkNew a0 (st0 n) fun v1_1 vs_2 =>
  mkNew zc_2 vs_2 fun v2_3 vs_4 =>
  mkNew zc_2 vs_4 fun v3_5 vs_6 =>
  (aFaddr 0 v1_1).bind fun v4_7 =>
  (aLoad false 1 vs_6 v4_7).bind fun v5_8 =>
  (aFaddr 0 v3_5).bind fun v6_9 =>
  (aStore 1 v6_9 v5_8 vs_6).bind fun vs_10 =>
  (aFaddr 1 v1_1).bind fun v7_11 =>
  (aLoad false 1 vs_10 v7_11).bind fun v8_12 =>
  (aFaddr 1 v3_5).bind fun v9_13 =>
  (aStore 1 v9_13 v8_12 vs_10).bind fun vs_14 =>
  (aFaddr 2 v1_1).bind fun v10_15 =>
  (aLoad false 1 vs_14 v10_15).bind fun v11_16 =>
  (aFaddr 2 v3_5).bind fun v12_17 =>
  (aStore 1 v12_17 v11_16 vs_14).bind fun vs_18 =>
  (aLoad true 3 vs_18 v3_5).bind fun v13_19 =>
  (aStore 3 v2_3 v13_19 vs_18).bind fun vs_20 =>
  ((aLoad true 3 vs_20 v2_3).bind fun vr_21 =>
  some (vr_21 :: [])).bind fun vs =>
  (resTup vs_20 (retV vs)).bind fun r => some (r, vs_20.n) := (lim_call F _ _ _).trans (by kernel_rfl)

end Go.Proofs.YtpjddmfcikelcaaFw
