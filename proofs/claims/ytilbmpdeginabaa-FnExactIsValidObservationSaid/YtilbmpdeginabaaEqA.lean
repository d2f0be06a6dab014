/- The equations of the seat's functions, printed out of its code. Conditions: none beside each theorem's own. -/
import Derived.Test.YtilbmpdeginabaaEq
namespace Go.Proofs.YtilbmpdeginabaaFw
open Go
set_option maxRecDepth 20000

abbrev i_laws_FnExactIsValidObservation : Nat := 3
abbrev i_spec_IsValidObservation : Nat := 9
abbrev i_laws_toObservation : Nat := 10
abbrev i_impl_IsValidObservation : Nat := 11
abbrev i_spec_IsValidPose : Nat := 31
abbrev i_spec_l01In : Nat := 32
abbrev i_impl_inRange : Nat := 33

noncomputable def f_laws_FnExactIsValidObservation : IFn := (F i_laws_FnExactIsValidObservation).getD default

theorem call_laws_FnExactIsValidObservation (a0 : AV) (n : Nat) : L.call i_laws_FnExactIsValidObservation [a0] n =
  if a0.stor = true ∧ a0.cells.length ≠ 0 then
  (aLoad true 3 ((st0 n).new a0.cells.length [a0]) (.ptr (st0 n).m (st0 n).n 0 0)).bind fun v5_1 =>
  (clV L i_laws_toObservation 0 [v5_1] ((st0 n).new a0.cells.length [a0])).bind fun v6_2 =>
  (clV L i_spec_IsValidObservation 0 [v6_2.1] v6_2.2).bind fun v7_3 =>
  (aLoad true 3 v7_3.2 (.ptr (st0 n).m (st0 n).n 0 0)).bind fun v8_4 =>
  (clV L i_laws_toObservation 0 [v8_4] v7_3.2).bind fun v9_5 =>
  (clV L i_impl_IsValidObservation 0 [v9_5.1] v9_5.2).bind fun v10_6 =>
  (aBinb .neq v10_6.1 v7_3.1).bind fun v13_7 =>
  cnd v13_7
  ((resTup v10_6.2 (.bool false)).bind fun r => some (r, v10_6.2.n))
  ((resTup v10_6.2 (.bool true)).bind fun r => some (r, v10_6.2.n))
  else none := (lim_call F _ _ _).trans (by kernel_rfl)

noncomputable def f_spec_IsValidObservation : IFn := (F i_spec_IsValidObservation).getD default

theorem call_spec_IsValidObservation (a0 : AV) (n : Nat) : L.call i_spec_IsValidObservation [a0] n =
  if a0.stor = true ∧ a0.cells.length ≠ 0 then
  (aFaddr 0 (.ptr (st0 n).m (st0 n).n 0 0)).bind fun v3_1 =>
  (aLoad false 1 ((st0 n).new a0.cells.length [a0]) v3_1).bind fun v4_2 =>
  (aFaddr 1 (.ptr (st0 n).m (st0 n).n 0 0)).bind fun v5_3 =>
  (aLoad false 1 ((st0 n).new a0.cells.length [a0]) v5_3).bind fun v6_4 =>
  (mkBuild [(1, 1, v4_2), (2, 1, v6_4)] [(.int .i64 0), (.int .i64 0), (.int .i64 0)]).bind fun v7_5 =>
  (clV L i_spec_IsValidPose 0 [(.agg v7_5)] ((st0 n).new a0.cells.length [a0])).bind fun v8_6 =>
  cnd v8_6.1
  ((aFaddr 2 (.ptr (st0 n).m (st0 n).n 0 0)).bind fun v10_7 =>
  (aLoad false 1 v8_6.2 v10_7).bind fun v11_8 =>
  (clV L i_spec_l01In 0 [v11_8, (.int .i64 1), (.int .i64 9999)] v8_6.2).bind fun v12_9 =>
  (resTup v12_9.2 v12_9.1).bind fun r => some (r, v12_9.2.n))
  ((resTup v8_6.2 (.bool false)).bind fun r => some (r, v8_6.2.n))
  else none := (lim_call F _ _ _).trans (by kernel_rfl)

noncomputable def f_laws_toObservation : IFn := (F i_laws_toObservation).getD default

theorem call_laws_toObservation (a0 : AV) (n : Nat) : L.call i_laws_toObservation [a0] n =
  if a0.stor = true ∧ a0.cells.length ≠ 0 then
  if ((.agg [(.int .i64 0), (.int .i64 0), (.int .i64 0)]) : AV).stor = true ∧ ((.agg [(.int .i64 0), (.int .i64 0), (.int .i64 0)]) : AV).cells.length ≠ 0 then
  if ((.agg [(.int .i64 0), (.int .i64 0), (.int .i64 0)]) : AV).stor = true ∧ ((.agg [(.int .i64 0), (.int .i64 0), (.int .i64 0)]) : AV).cells.length ≠ 0 then
  (aFaddr 0 (.ptr (st0 n).m (st0 n).n 0 0)).bind fun v4_1 =>
  (aLoad false 1 ((((st0 n).new a0.cells.length [a0]).new ((.agg [(.int .i64 0), (.int .i64 0), (.int .i64 0)]) : AV).cells.length [(.agg [(.int .i64 0), (.int .i64 0), (.int .i64 0)])]).new ((.agg [(.int .i64 0), (.int .i64 0), (.int .i64 0)]) : AV).cells.length [(.agg [(.int .i64 0), (.int .i64 0), (.int .i64 0)])]) v4_1).bind fun v5_2 =>
  (aFaddr 0 (.ptr (((st0 n).new a0.cells.length [a0]).new ((.agg [(.int .i64 0), (.int .i64 0), (.int .i64 0)]) : AV).cells.length [(.agg [(.int .i64 0), (.int .i64 0), (.int .i64 0)])]).m (((st0 n).new a0.cells.length [a0]).new ((.agg [(.int .i64 0), (.int .i64 0), (.int .i64 0)]) : AV).cells.length [(.agg [(.int .i64 0), (.int .i64 0), (.int .i64 0)])]).n 0 0)).bind fun v6_3 =>
  (aStore 1 v6_3 v5_2 ((((st0 n).new a0.cells.length [a0]).new ((.agg [(.int .i64 0), (.int .i64 0), (.int .i64 0)]) : AV).cells.length [(.agg [(.int .i64 0), (.int .i64 0), (.int .i64 0)])]).new ((.agg [(.int .i64 0), (.int .i64 0), (.int .i64 0)]) : AV).cells.length [(.agg [(.int .i64 0), (.int .i64 0), (.int .i64 0)])])).bind fun vs_4 =>
  (aFaddr 1 (.ptr (st0 n).m (st0 n).n 0 0)).bind fun v7_5 =>
  (aLoad false 1 vs_4 v7_5).bind fun v8_6 =>
  (aFaddr 1 (.ptr (((st0 n).new a0.cells.length [a0]).new ((.agg [(.int .i64 0), (.int .i64 0), (.int .i64 0)]) : AV).cells.length [(.agg [(.int .i64 0), (.int .i64 0), (.int .i64 0)])]).m (((st0 n).new a0.cells.length [a0]).new ((.agg [(.int .i64 0), (.int .i64 0), (.int .i64 0)]) : AV).cells.length [(.agg [(.int .i64 0), (.int .i64 0), (.int .i64 0)])]).n 0 0)).bind fun v9_7 =>
  (aStore 1 v9_7 v8_6 vs_4).bind fun vs_8 =>
  (aFaddr 2 (.ptr (st0 n).m (st0 n).n 0 0)).bind fun v10_9 =>
  (aLoad false 1 vs_8 v10_9).bind fun v11_10 =>
  (aFaddr 2 (.ptr (((st0 n).new a0.cells.length [a0]).new ((.agg [(.int .i64 0), (.int .i64 0), (.int .i64 0)]) : AV).cells.length [(.agg [(.int .i64 0), (.int .i64 0), (.int .i64 0)])]).m (((st0 n).new a0.cells.length [a0]).new ((.agg [(.int .i64 0), (.int .i64 0), (.int .i64 0)]) : AV).cells.length [(.agg [(.int .i64 0), (.int .i64 0), (.int .i64 0)])]).n 0 0)).bind fun v12_11 =>
  (aStore 1 v12_11 v11_10 vs_8).bind fun vs_12 =>
  (aLoad true 3 vs_12 (.ptr (((st0 n).new a0.cells.length [a0]).new ((.agg [(.int .i64 0), (.int .i64 0), (.int .i64 0)]) : AV).cells.length [(.agg [(.int .i64 0), (.int .i64 0), (.int .i64 0)])]).m (((st0 n).new a0.cells.length [a0]).new ((.agg [(.int .i64 0), (.int .i64 0), (.int .i64 0)]) : AV).cells.length [(.agg [(.int .i64 0), (.int .i64 0), (.int .i64 0)])]).n 0 0)).bind fun v13_13 =>
  (aStore 3 (.ptr ((st0 n).new a0.cells.length [a0]).m ((st0 n).new a0.cells.length [a0]).n 0 0) v13_13 vs_12).bind fun vs_14 =>
  ((aLoad true 3 vs_14 (.ptr ((st0 n).new a0.cells.length [a0]).m ((st0 n).new a0.cells.length [a0]).n 0 0)).bind fun vr_15 =>
  some (vr_15 :: [])).bind fun vs =>
  (resTup vs_14 (retV vs)).bind fun r => some (r, vs_14.n)
  else none
  else none
  else none := (lim_call F _ _ _).trans (by kernel_rfl)

noncomputable def f_impl_IsValidObservation : IFn := (F i_impl_IsValidObservation).getD default

theorem call_impl_IsValidObservation (a0 : AV) (n : Nat) : L.call i_impl_IsValidObservation [a0] n =
  if a0.stor = true ∧ a0.cells.length ≠ 0 then
  (aFaddr 0 (.ptr (st0 n).m (st0 n).n 0 0)).bind fun v3_1 =>
  (aLoad false 1 ((st0 n).new a0.cells.length [a0]) v3_1).bind fun v4_2 =>
  (clV L i_impl_inRange 0 [v4_2] ((st0 n).new a0.cells.length [a0])).bind fun v5_3 =>
  cnd v5_3.1
  ((aFaddr 1 (.ptr (st0 n).m (st0 n).n 0 0)).bind fun v7_4 =>
  (aLoad false 1 v5_3.2 v7_4).bind fun v8_5 =>
  (clV L i_impl_inRange 0 [v8_5] v5_3.2).bind fun v9_6 =>
  cnd v9_6.1
  ((aFaddr 2 (.ptr (st0 n).m (st0 n).n 0 0)).bind fun v12_7 =>
  (aLoad false 1 v9_6.2 v12_7).bind fun v13_8 =>
  (aBin .geq v13_8 (.int .i64 1)).bind fun v14_9 =>
  cnd v14_9
  ((aFaddr 2 (.ptr (st0 n).m (st0 n).n 0 0)).bind fun v17_10 =>
  (aLoad false 1 v9_6.2 v17_10).bind fun v18_11 =>
  (aBin .leq v18_11 (.int .i64 9999)).bind fun v19_12 =>
  (resTup v9_6.2 v19_12).bind fun r => some (r, v9_6.2.n))
  ((resTup v9_6.2 (.bool false)).bind fun r => some (r, v9_6.2.n)))
  ((resTup v9_6.2 (.bool false)).bind fun r => some (r, v9_6.2.n)))
  ((resTup v5_3.2 (.bool false)).bind fun r => some (r, v5_3.2.n))
  else none := (lim_call F _ _ _).trans (by kernel_rfl)

noncomputable def f_spec_IsValidPose : IFn := (F i_spec_IsValidPose).getD default

theorem call_spec_IsValidPose (a0 : AV) (n : Nat) : L.call i_spec_IsValidPose [a0] n =
  if a0.stor = true ∧ a0.cells.length ≠ 0 then
  (aFaddr 0 (.ptr (st0 n).m (st0 n).n 0 0)).bind fun v3_1 =>
  (aLoad false 1 ((st0 n).new a0.cells.length [a0]) v3_1).bind fun v4_2 =>
  (clV L i_spec_l01In 0 [v4_2, (.int .i64 0), (.int .i64 3)] ((st0 n).new a0.cells.length [a0])).bind fun v5_3 =>
  cnd v5_3.1
  ((aFaddr 1 (.ptr (st0 n).m (st0 n).n 0 0)).bind fun v7_4 =>
  (aLoad false 1 v5_3.2 v7_4).bind fun v8_5 =>
  (clV L i_spec_l01In 0 [v8_5, (.int .i64 (-1000000)), (.int .i64 1000000)] v5_3.2).bind fun v9_6 =>
  cnd v9_6.1
  ((aFaddr 2 (.ptr (st0 n).m (st0 n).n 0 0)).bind fun v12_7 =>
  (aLoad false 1 v9_6.2 v12_7).bind fun v13_8 =>
  (clV L i_spec_l01In 0 [v13_8, (.int .i64 (-1000000)), (.int .i64 1000000)] v9_6.2).bind fun v14_9 =>
  (resTup v14_9.2 v14_9.1).bind fun r => some (r, v14_9.2.n))
  ((resTup v9_6.2 (.bool false)).bind fun r => some (r, v9_6.2.n)))
  ((resTup v5_3.2 (.bool false)).bind fun r => some (r, v5_3.2.n))
  else none := (lim_call F _ _ _).trans (by kernel_rfl)

noncomputable def f_spec_l01In : IFn := (F i_spec_l01In).getD default

theorem call_spec_l01In (a0 : AV) (a1 : AV) (a2 : AV) (n : Nat) : L.call i_spec_l01In [a0, a1, a2] n =
  (aBin .geq a0 a1).bind fun v9_1 =>
  cnd v9_1
  ((aBin .leq a0 a2).bind fun v13_2 =>
  (resTup (st0 n) v13_2).bind fun r => some (r, (st0 n).n))
  ((resTup (st0 n) (.bool false)).bind fun r => some (r, (st0 n).n)) := (lim_call F _ _ _).trans (by kernel_rfl)

noncomputable def f_impl_inRange : IFn := (F i_impl_inRange).getD default

theorem call_impl_inRange (a0 : AV) (n : Nat) : L.call i_impl_inRange [a0] n =
  (aBin .geq a0 (.int .i64 (-1000000))).bind fun v4_1 =>
  cnd v4_1
  ((aBin .leq a0 (.int .i64 1000000)).bind fun v7_2 =>
  (resTup (st0 n) v7_2).bind fun r => some (r, (st0 n).n))
  ((resTup (st0 n) (.bool false)).bind fun r => some (r, (st0 n).n)) := (lim_call F _ _ _).trans (by kernel_rfl)

end Go.Proofs.YtilbmpdeginabaaFw
