/- What the functions that the law reaches give back. Conditions: those of each theorem. -/
import Derived.Test.YtbomeeiaeohbpaaCts
set_option linter.unusedSimpArgs false
set_option linter.unusedVariables false
namespace Go.Proofs.YtbomeeiaeohbpaaFw
open Go

theorem DeadReckoning_spec {v : AV} {l : List Fac} (h : FS v l) (s : sm_FactorS l) (n : Nat) : Ok (L.call i_spec_DeadReckoning [v] n) fun p => n ≤ p.2 ∧ ∃ T U, p.1 = .tup [T, U] ∧ PosS T (deadM l).1 ∧ BoolSl U (deadM l).2 := by
  rw [call_spec_DeadReckoning]
  refine Ok.gives (IsFactorList_spec h s) (plain1 h.plain) fun n1 h1 => ?_
  simp only [aUn_not, bind_some']
  refine Ok.cndnb (fun hf => ?_) fun hf => ?_
  · refine ⟨_, rfl, h1, .nils, .nils, rfl, ?_⟩
    simp only [deadM, hf, Bool.false_eq_true, if_false]
    exact ⟨⟨[], .inl ⟨rfl, rfl⟩, rfl⟩, ⟨[], .inl ⟨rfl, rfl⟩, rfl⟩⟩
  refine Ok.call (NamesOf_spec h s.1 _) (plain1 h.plain) fun r n2 hp => ?_
  obtain ⟨hn2, hs, _⟩ : n1 ≤ n2 ∧ SS r (namesM l) ∧ _ := hp
  have h1' : n ≤ n1 := h1
  have hnl := names_length l
  have hl := s.1
  simp only [SlOf.len hs, bind_some']
  rw [mkMake_ok (s := 3) (z := zc_iii) (by omega) rfl rfl (by omega), mkMake_ok (s := 1) (z := .bool false) (by omega) rfl rfl (by omega)]
  have key : ∀ (k : Nat) (st : St) (va vk : AV) (ps : List Pos) (kn : List Bool), kn.count false ≤ k → DR st va vk ps kn → ps.length = (namesM l).length → kn.length = (namesM l).length → n ≤ st.n →
      Ok ((L.loop [0, 4, 5, 6] [2, 3] b_spec_DeadReckoning_1 [v, r, va, vk] st).bind k_spec_DeadReckoning_1) fun p => n ≤ p.2 ∧ ∃ T U, p.1 = .tup [T, U] ∧ PosS T (deadF (namesM l) l k ps kn).1 ∧ BoolSl U (deadF (namesM l) l k ps kn).2 := by
    have cl : ∀ (st : St) (va vk : AV) (ps : List Pos) (kn : List Bool), DR st va vk ps kn → ps.length = (namesM l).length → kn.length = (namesM l).length → ∃ m, st.n ≤ m ∧ clV L i_spec_l17Reckon 0 [v, r, va, vk] st = some (reckR (reckM (namesM l) l ps kn), st.setN m) := by
      intro st va vk ps kn hD hp hkl
      obtain ⟨T, U, _, t2, t3, t4, t5⟩ := hD.fin
      obtain ⟨⟨r', m⟩, e, hm, hr⟩ := l17Reckon_ok h hf hs t2 t3 hp hkl st.n
      simp only at hr; subst hr
      refine ⟨m, hm, ?_⟩
      have h4 := mapO4 (g := res st) (res_plain h.plain) (res_plain hs.plain) t4 t5
      have hrel : ∀ ls, reloc ls (reckR (reckM (namesM l) l ps kn)) = some (reckR (reckM (namesM l) l ps kn)) := fun ls => by
        unfold reckR
        split
        · exact reloc_tup fun w hw => by
            simp only [List.mem_cons, List.not_mem_nil, or_false] at hw
            rcases hw with rfl | rfl
            · exact ⟨.inl rfl, by simp [AV.tags]⟩
            · exact ⟨.inr ⟨_, rfl, rfl⟩, by simp [poseV, AV.tags, tagsL]⟩
        · exact reloc_tup fun w hw => by
            simp only [List.mem_cons, List.not_mem_nil, or_false] at hw
            rcases hw with rfl | rfl
            · exact ⟨.inl rfl, by simp [AV.tags]⟩
            · exact ⟨.inr ⟨_, rfl, rfl⟩, by simp [poseV, AV.tags, tagsL]⟩
      simp only [clV, h4, Option.bind_some, e, hrel]
      rfl
    intro k
    induction k with
    | zero =>
      intro st va vk ps kn hk hD hp hkl hn
      rw [loop_spec_DeadReckoning_1]
      obtain ⟨m, hm, e⟩ := cl st va vk ps kn hD hp hkl
      rw [e]
      cases hr : reckM (namesM l) l ps kn with
      | none =>
        obtain ⟨T, U, t1, t2, t3, _⟩ := ((hD.setN (n := m)).new (s := 3) (es := [poseV pose0])).fin
        simp only [poseV, pose0] at t1
        simp only [reckR, poseV, pose0, retV_one, retV_two, retV_three, mkNew_agg, mkNew_zc, ld_top, ld_old, ld_setN, sto_top, setN_setN, faddr_ptr, faddr_eptr, ld_eptr, new_m', new_n', setN_m', setN_n', st0_m', st0_n', put_m', put_n', AV.cells, AV.one, AV.stor, ldCells, setElem, splice, List.all_cons, List.all_nil, List.length_cons, List.length_nil, List.drop, List.take, List.head?_cons, List.getElem?_cons_zero, List.getElem?_cons_succ, List.set_cons_zero, List.nil_append, List.cons_append, List.append_nil, List.drop_zero, List.drop_succ_cons, List.drop_nil, List.take_zero, List.take_succ_cons, List.take_nil, cond_true, cond_false, Bool.and_self, Bool.and_true, and_self, and_true, true_and, if_true, bind_some', Nat.add_zero, Nat.zero_add, Nat.reduceAdd, Nat.reduceLeDiff, ne_eq, not_false_eq_true, Nat.add_eq_zero_iff, Nat.reduceEqDiff, one_ne_zero', zero_ne_one', nne1, nne2, nne3, Nat.add_right_cancel_iff, Nat.add_left_cancel_iff, Nat.le_refl, reduceCtorEq, bind_some', aBin_lss, aBin_leq, aBin_gtr, aBin_geq, aBin_eql, aBin_neq, aBin_add, aBin_sub, aBin_mul, aBin_seql, aBin_sneq, aBinb_eql, aBinb_neq, aUn_not, aUn_neg, aSlen_str, extr0, extr1, extr2, show ((-1 : Int) < 0) = True by simp, decide_true, Go.Proofs.YtbomeeiaeohbpaaFw.cnd, k_spec_DeadReckoning_1_ret, t1, deadF]
        exact ⟨_, rfl, (by simp only; omega), T, U, rfl, t2, t3⟩
      | some x =>
        obtain ⟨a1, a2⟩ := stepAt_lt rfl hf (i := x.1) (q := x.2) hr
        have := count_set (kn := kn) (i := x.1) (by omega) a2; omega
    | succ k ih =>
      intro st va vk ps kn hk hD hp hkl hn
      rw [loop_spec_DeadReckoning_1]
      obtain ⟨m, hm, e⟩ := cl st va vk ps kn hD hp hkl
      rw [e]
      cases hr : reckM (namesM l) l ps kn with
      | none =>
        obtain ⟨T, U, t1, t2, t3, _⟩ := ((hD.setN (n := m)).new (s := 3) (es := [poseV pose0])).fin
        simp only [poseV, pose0] at t1
        simp only [reckR, poseV, pose0, retV_one, retV_two, retV_three, mkNew_agg, mkNew_zc, ld_top, ld_old, ld_setN, sto_top, setN_setN, faddr_ptr, faddr_eptr, ld_eptr, new_m', new_n', setN_m', setN_n', st0_m', st0_n', put_m', put_n', AV.cells, AV.one, AV.stor, ldCells, setElem, splice, List.all_cons, List.all_nil, List.length_cons, List.length_nil, List.drop, List.take, List.head?_cons, List.getElem?_cons_zero, List.getElem?_cons_succ, List.set_cons_zero, List.nil_append, List.cons_append, List.append_nil, List.drop_zero, List.drop_succ_cons, List.drop_nil, List.take_zero, List.take_succ_cons, List.take_nil, cond_true, cond_false, Bool.and_self, Bool.and_true, and_self, and_true, true_and, if_true, bind_some', Nat.add_zero, Nat.zero_add, Nat.reduceAdd, Nat.reduceLeDiff, ne_eq, not_false_eq_true, Nat.add_eq_zero_iff, Nat.reduceEqDiff, one_ne_zero', zero_ne_one', nne1, nne2, nne3, Nat.add_right_cancel_iff, Nat.add_left_cancel_iff, Nat.le_refl, reduceCtorEq, bind_some', aBin_lss, aBin_leq, aBin_gtr, aBin_geq, aBin_eql, aBin_neq, aBin_add, aBin_sub, aBin_mul, aBin_seql, aBin_sneq, aBinb_eql, aBinb_neq, aUn_not, aUn_neg, aSlen_str, extr0, extr1, extr2, show ((-1 : Int) < 0) = True by simp, decide_true, Go.Proofs.YtbomeeiaeohbpaaFw.cnd, k_spec_DeadReckoning_1_ret, t1, deadF, hr]
        exact ⟨_, rfl, (by simp only; omega), T, U, rfl, t2, t3⟩
      | some x =>
        obtain ⟨a1, a2⟩ := stepAt_lt rfl hf (i := x.1) (q := x.2) hr
        have hc := count_set (kn := kn) (i := x.1) (by omega) a2
        obtain ⟨p1, p2, S1, S2, b1, b2, b3, b4, b5, b6, b7⟩ := ((hD.setN (n := m)).new (s := 3) (es := [poseV x.2])).store (i := x.1) (by omega) (by omega) x.2 .i64
        have hx : ¬ ((x.1 : Int) < 0) := by omega
        simp only [poseV] at b2
        simp only [reckR, poseV, retV_one, retV_two, retV_three, mkNew_agg, mkNew_zc, ld_top, ld_old, ld_setN, sto_top, setN_setN, faddr_ptr, faddr_eptr, ld_eptr, new_m', new_n', setN_m', setN_n', st0_m', st0_n', put_m', put_n', AV.cells, AV.one, AV.stor, ldCells, setElem, splice, List.all_cons, List.all_nil, List.length_cons, List.length_nil, List.drop, List.take, List.head?_cons, List.getElem?_cons_zero, List.getElem?_cons_succ, List.set_cons_zero, List.nil_append, List.cons_append, List.append_nil, List.drop_zero, List.drop_succ_cons, List.drop_nil, List.take_zero, List.take_succ_cons, List.take_nil, cond_true, cond_false, Bool.and_self, Bool.and_true, and_self, and_true, true_and, if_true, bind_some', Nat.add_zero, Nat.zero_add, Nat.reduceAdd, Nat.reduceLeDiff, ne_eq, not_false_eq_true, Nat.add_eq_zero_iff, Nat.reduceEqDiff, one_ne_zero', zero_ne_one', nne1, nne2, nne3, Nat.add_right_cancel_iff, Nat.add_left_cancel_iff, Nat.le_refl, reduceCtorEq, bind_some', aBin_lss, aBin_leq, aBin_gtr, aBin_geq, aBin_eql, aBin_neq, aBin_add, aBin_sub, aBin_mul, aBin_seql, aBin_sneq, aBinb_eql, aBinb_neq, aUn_not, aUn_neg, aSlen_str, extr0, extr1, extr2, hx, decide_false, Go.Proofs.YtbomeeiaeohbpaaFw.cnd, b1, b2, b3, b4, deadF, hr]
        refine ih S2 va vk _ _ (by omega) b5 (by simpa using hp) (by simpa using hkl) ?_
        rw [b7]; simp only [new_n, setN_n]; omega
  have hfin := key (namesM l).length (((((st0 n).setN n1).setN n2).new 3 (List.replicate (namesM l).length zc_iii)).new 1 (List.replicate (namesM l).length (.bool false))) _ _ (List.replicate (namesM l).length pose0) (List.replicate (namesM l).length false) (by simp)
    ⟨((st0 n).setN n1).m, n2, ((st0 n).setN n1).m + 1, n2 + 1, ⟨rfl, ?_⟩, ⟨rfl, ?_⟩, ?_, ?_, by omega⟩ (by simp) (by simp) ?_
  · simp only [List.length_map, List.length_replicate] at hfin
    refine (Ok.of_eq hfin rfl).mono fun p hp => ?_
    simpa only [deadM, hf, if_true] using hp
  · rw [new_H_ne (by simp only [new_m, setN_m, st0_m, ne_eq]; omega)]
    rw [List.map_replicate]; exact new_H _ _ _
  · rw [List.map_replicate]; exact new_H _ _ _
  · simp only [new_m, setN_m, st0_m]; omega
  · simp only [new_m, setN_m, st0_m]; omega
  · simp only [new_n, setN_n]; omega

theorem KnownPose_spec {v : AV} {l : List Fac} (h : FS v l) (s : sm_FactorS l) (x : ByteArray) : Gives i_spec_KnownPose [v, .str x] (.tup [poseV (knownM l x).1, .bool (knownM l x).2]) := by
  intro n
  rw [call_spec_KnownPose]
  have hnl := names_length l
  have hl := s.1
  obtain ⟨d1, d2⟩ := deadM_len l
  simp only [retV_one, retV_two, retV_three, mkNew_agg, mkNew_zc, ld_top, ld_old, ld_setN, sto_top, setN_setN, faddr_ptr, faddr_eptr, ld_eptr, new_m', new_n', setN_m', setN_n', st0_m', st0_n', put_m', put_n', AV.cells, AV.one, AV.stor, ldCells, setElem, splice, List.all_cons, List.all_nil, List.length_cons, List.length_nil, List.drop, List.take, List.head?_cons, List.getElem?_cons_zero, List.getElem?_cons_succ, List.set_cons_zero, List.nil_append, List.cons_append, List.append_nil, List.drop_zero, List.drop_succ_cons, List.drop_nil, List.take_zero, List.take_succ_cons, List.take_nil, cond_true, cond_false, Bool.and_self, Bool.and_true, and_self, and_true, true_and, if_true, bind_some', Nat.add_zero, Nat.zero_add, Nat.reduceAdd, Nat.reduceLeDiff, ne_eq, not_false_eq_true, Nat.add_eq_zero_iff, Nat.reduceEqDiff, one_ne_zero', zero_ne_one', nne1, nne2, nne3, Nat.add_right_cancel_iff, Nat.add_left_cancel_iff, Nat.le_refl, reduceCtorEq]
  refine Ok.call (DeadReckoning_spec h s _) (plain1 h.plain) fun r n1 hp => ?_
  obtain ⟨hn1, T, U, rfl, hT, hU⟩ := hp
  have hn1' : n + 1 ≤ n1 := hn1
  simp only [retV_one, retV_two, retV_three, mkNew_agg, mkNew_zc, ld_top, ld_old, ld_setN, sto_top, setN_setN, faddr_ptr, faddr_eptr, ld_eptr, new_m', new_n', setN_m', setN_n', st0_m', st0_n', put_m', put_n', AV.cells, AV.one, AV.stor, ldCells, setElem, splice, List.all_cons, List.all_nil, List.length_cons, List.length_nil, List.drop, List.take, List.head?_cons, List.getElem?_cons_zero, List.getElem?_cons_succ, List.set_cons_zero, List.nil_append, List.cons_append, List.append_nil, List.drop_zero, List.drop_succ_cons, List.drop_nil, List.take_zero, List.take_succ_cons, List.take_nil, cond_true, cond_false, Bool.and_self, Bool.and_true, and_self, and_true, true_and, if_true, bind_some', Nat.add_zero, Nat.zero_add, Nat.reduceAdd, Nat.reduceLeDiff, ne_eq, not_false_eq_true, Nat.add_eq_zero_iff, Nat.reduceEqDiff, one_ne_zero', zero_ne_one', nne1, nne2, nne3, Nat.add_right_cancel_iff, Nat.add_left_cancel_iff, Nat.le_refl, reduceCtorEq, bind_some', aBin_lss, aBin_leq, aBin_gtr, aBin_geq, aBin_eql, aBin_neq, aBin_add, aBin_sub, aBin_mul, aBin_seql, aBin_sneq, aBinb_eql, aBinb_neq, aUn_not, aUn_neg, aSlen_str, extr0, extr1, extr2]
  refine Ok.call (NamesOf_spec h s.1 _) (plain1 h.plain) fun r n2 hp => ?_
  obtain ⟨hn2, hs, _⟩ : n1 ≤ n2 ∧ SS r (namesM l) ∧ _ := hp
  simp only [retV_one, retV_two, retV_three, mkNew_agg, mkNew_zc, ld_top, ld_old, ld_setN, sto_top, setN_setN, faddr_ptr, faddr_eptr, ld_eptr, new_m', new_n', setN_m', setN_n', st0_m', st0_n', put_m', put_n', AV.cells, AV.one, AV.stor, ldCells, setElem, splice, List.all_cons, List.all_nil, List.length_cons, List.length_nil, List.drop, List.take, List.head?_cons, List.getElem?_cons_zero, List.getElem?_cons_succ, List.set_cons_zero, List.nil_append, List.cons_append, List.append_nil, List.drop_zero, List.drop_succ_cons, List.drop_nil, List.take_zero, List.take_succ_cons, List.take_nil, cond_true, cond_false, Bool.and_self, Bool.and_true, and_self, and_true, true_and, if_true, bind_some', Nat.add_zero, Nat.zero_add, Nat.reduceAdd, Nat.reduceLeDiff, ne_eq, not_false_eq_true, Nat.add_eq_zero_iff, Nat.reduceEqDiff, one_ne_zero', zero_ne_one', nne1, nne2, nne3, Nat.add_right_cancel_iff, Nat.add_left_cancel_iff, Nat.le_refl, reduceCtorEq]
  refine Ok.gives (l17Index_ok hs (by omega) x) (plain2 hs.plain (plain_str _)) fun n3 hn3 => ?_
  have hn3' : n2 ≤ n3 := hn3
  have hr := fidx_range (fun y => decide (y = x)) (namesM l)
  simp only [retV_one, retV_two, retV_three, mkNew_agg, mkNew_zc, ld_top, ld_old, ld_setN, sto_top, sto_old, sto_setN, faddr_ptr, faddr_eptr, ld_eptr, new_m', new_n', setN_m', setN_n', st0_m', st0_n', put_m', put_n', AV.cells, AV.one, AV.stor, ldCells, setElem, splice, List.all_cons, List.all_nil, List.length_cons, List.length_nil, List.drop, List.take, List.head?_cons, List.getElem?_cons_zero, List.getElem?_cons_succ, List.set_cons_zero, List.nil_append, List.cons_append, List.append_nil, List.drop_zero, List.drop_succ_cons, List.drop_nil, List.take_zero, List.take_succ_cons, List.take_nil, cond_true, cond_false, Bool.and_self, Bool.and_true, and_self, and_true, true_and, if_true, bind_some', Nat.add_zero, Nat.zero_add, Nat.reduceAdd, Nat.reduceLeDiff, ne_eq, not_false_eq_true, Nat.add_eq_zero_iff, Nat.reduceEqDiff, one_ne_zero', zero_ne_one', nne1, nne2, nne3, Nat.add_right_cancel_iff, Nat.add_left_cancel_iff, Nat.le_refl, reduceCtorEq, bind_some', aBin_lss, aBin_leq, aBin_gtr, aBin_geq, aBin_eql, aBin_neq, aBin_add, aBin_sub, aBin_mul, aBin_seql, aBin_sneq, aBinb_eql, aBinb_neq, aUn_not, aUn_neg, aSlen_str, extr0, extr1, extr2]
  refine Ok.cnd (fun h0 => ?_) fun h0 => ?_
  · refine Ok.ret (by first | rfl | (simp only [retV_one, retV_two, retV_three]; rfl)) (by (try simp only [new_n', setN_n', st0_n', put_n'] at *); first | omega | exact Nat.le_succ _ | exact Nat.le_refl _) ?_
    simp only [knownM, h0, true_or, if_true, pose0, poseV]
  simp only [SlOf.len hT, bind_some', aBin_lss, aBin_leq, aBin_gtr, aBin_geq, aBin_eql, aBin_neq, aBin_add, aBin_sub, aBin_mul, aBin_seql, aBin_sneq, aBinb_eql, aBinb_neq, aUn_not, aUn_neg, aSlen_str, extr0, extr1, extr2]
  refine Ok.cnd (fun h1 => ?_) fun h1 => ?_
  · refine Ok.ret (by first | rfl | (simp only [retV_one, retV_two, retV_three]; rfl)) (by (try simp only [new_n', setN_n', st0_n', put_n'] at *); first | omega | exact Nat.le_succ _ | exact Nat.le_refl _) ?_
    simp only [knownM, h1, or_true, if_true, pose0, poseV]
  obtain ⟨i, hi⟩ : ∃ i : Nat, fidx (fun y => decide (y = x)) (namesM l) = (i : Int) := ⟨(fidx (fun y => decide (y = x)) (namesM l)).toNat, by omega⟩
  have hii : ¬ ((i : Int) < 0 ∨ ((deadM l).1.length : Int) ≤ (i : Int)) := by rw [← hi]; omega
  have hk : knownM l x = if kb (deadM l).2 i = true then (pa (deadM l).1 i, true) else (pose0, false) := by
    simp only [knownM, hi]; rw [if_neg hii]; rfl
  obtain ⟨q, q1, q2⟩ := hU.at (st := (((st0 n).new 3 [AV.agg [AV.int .i64 0, AV.int .i64 0, AV.int .i64 0]]).setN n3)) (i := i) (by omega) .i64
  obtain ⟨q', q1', q2'⟩ := hT.at (st := (((st0 n).new 3 [AV.agg [AV.int .i64 0, AV.int .i64 0, AV.int .i64 0]]).setN n3)) (i := i) (by omega) .i64
  simp only [ld_eptr] at q2 q2'
  rw [hi]
  simp only [q1, q1', ld_eptr, q2, q2', bind_some', aBin_lss, aBin_leq, aBin_gtr, aBin_geq, aBin_eql, aBin_neq, aBin_add, aBin_sub, aBin_mul, aBin_seql, aBin_sneq, aBinb_eql, aBinb_neq, aUn_not, aUn_neg, aSlen_str, extr0, extr1, extr2]
  refine Ok.cndnb (fun hb => ?_) fun hb => ?_
  · refine Ok.ret (by first | rfl | (simp only [retV_one, retV_two, retV_three]; rfl)) (by (try simp only [new_n', setN_n', st0_n', put_n'] at *); first | omega | exact Nat.le_succ _ | exact Nat.le_refl _) ?_
    rw [hk, hb]; rfl
  · (try simp only [poseV, retV_one, retV_two, retV_three, mkNew_agg, mkNew_zc, ld_top, ld_old, ld_setN, sto_top, sto_old, sto_setN, faddr_ptr, faddr_eptr, ld_eptr, new_m', new_n', setN_m', setN_n', st0_m', st0_n', put_m', put_n', AV.cells, AV.one, AV.stor, ldCells, setElem, splice, List.all_cons, List.all_nil, List.length_cons, List.length_nil, List.drop, List.take, List.head?_cons, List.getElem?_cons_zero, List.getElem?_cons_succ, List.set_cons_zero, List.nil_append, List.cons_append, List.append_nil, List.drop_zero, List.drop_succ_cons, List.drop_nil, List.take_zero, List.take_succ_cons, List.take_nil, cond_true, cond_false, Bool.and_self, Bool.and_true, and_self, and_true, true_and, if_true, bind_some', Nat.add_zero, Nat.zero_add, Nat.reduceAdd, Nat.reduceLeDiff, ne_eq, not_false_eq_true, Nat.add_eq_zero_iff, Nat.reduceEqDiff, one_ne_zero', zero_ne_one', nne1, nne2, nne3, Nat.add_right_cancel_iff, Nat.add_left_cancel_iff, Nat.le_refl, reduceCtorEq])
    refine Ok.ret (by first | rfl | (simp only [retV_one, retV_two, retV_three]; rfl)) (by (try simp only [new_n', setN_n', st0_n', put_n'] at *); first | omega | exact Nat.le_succ _ | exact Nat.le_refl _) ?_
    rw [hk, hb]; rfl

theorem LoopOf_spec {v : AV} {l : List Fac} (h : FS v l) (s : sm_FactorS l) (id : Int) : Gives i_spec_LoopOf [v, .int .i64 id] (.tup [facV (loopM l id).1, .bool (loopM l id).2]) := by
  intro n
  have hl := s.1
  rw [call_spec_LoopOf]
  simp only [retV_one, retV_two, retV_three, mkNew_agg, mkNew_zc, ld_top, ld_old, ld_setN, sto_top, sto_old, sto_setN, faddr_ptr, faddr_eptr, ld_eptr, new_m', new_n', setN_m', setN_n', st0_m', st0_n', put_m', put_n', AV.cells, AV.one, AV.stor, ldCells, setElem, splice, List.all_cons, List.all_nil, List.length_cons, List.length_nil, List.drop, List.take, List.head?_cons, List.getElem?_cons_zero, List.getElem?_cons_succ, List.set_cons_zero, List.nil_append, List.cons_append, List.append_nil, List.drop_zero, List.drop_succ_cons, List.drop_nil, List.take_zero, List.take_succ_cons, List.take_nil, cond_true, cond_false, Bool.and_self, Bool.and_true, and_self, and_true, true_and, if_true, bind_some', Nat.add_zero, Nat.zero_add, Nat.reduceAdd, Nat.reduceLeDiff, ne_eq, not_false_eq_true, Nat.add_eq_zero_iff, Nat.reduceEqDiff, one_ne_zero', zero_ne_one', nne1, nne2, nne3, Nat.add_right_cancel_iff, Nat.add_left_cancel_iff, Nat.le_refl, reduceCtorEq]
  refine Ok.gives (l21Find_ok h (by omega) id) (plain2 h.plain (plain_int _ _)) fun m1 h1 => ?_
  simp only [facV, retV_one, retV_two, retV_three, mkNew_agg, mkNew_zc, ld_top, ld_old, ld_setN, sto_top, sto_old, sto_setN, faddr_ptr, faddr_eptr, ld_eptr, new_m', new_n', setN_m', setN_n', st0_m', st0_n', put_m', put_n', AV.cells, AV.one, AV.stor, ldCells, setElem, splice, List.all_cons, List.all_nil, List.length_cons, List.length_nil, List.drop, List.take, List.head?_cons, List.getElem?_cons_zero, List.getElem?_cons_succ, List.set_cons_zero, List.nil_append, List.cons_append, List.append_nil, List.drop_zero, List.drop_succ_cons, List.drop_nil, List.take_zero, List.take_succ_cons, List.take_nil, cond_true, cond_false, Bool.and_self, Bool.and_true, and_self, and_true, true_and, if_true, bind_some', Nat.add_zero, Nat.zero_add, Nat.reduceAdd, Nat.reduceLeDiff, ne_eq, not_false_eq_true, Nat.add_eq_zero_iff, Nat.reduceEqDiff, one_ne_zero', zero_ne_one', nne1, nne2, nne3, Nat.add_right_cancel_iff, Nat.add_left_cancel_iff, Nat.le_refl, reduceCtorEq, bind_some', aBin_lss, aBin_leq, aBin_gtr, aBin_geq, aBin_eql, aBin_neq, aBin_add, aBin_sub, aBin_mul, aBin_seql, aBin_sneq, aBinb_eql, aBinb_neq, aUn_not, aUn_neg, aSlen_str, extr0, extr1, extr2]
  refine Ok.gives (KnownPose_spec h s _) (plain2 h.plain (plain_str _)) fun m2 h2 => ?_
  simp only [poseV, retV_one, retV_two, retV_three, mkNew_agg, mkNew_zc, ld_top, ld_old, ld_setN, sto_top, sto_old, sto_setN, faddr_ptr, faddr_eptr, ld_eptr, new_m', new_n', setN_m', setN_n', st0_m', st0_n', put_m', put_n', AV.cells, AV.one, AV.stor, ldCells, setElem, splice, List.all_cons, List.all_nil, List.length_cons, List.length_nil, List.drop, List.take, List.head?_cons, List.getElem?_cons_zero, List.getElem?_cons_succ, List.set_cons_zero, List.nil_append, List.cons_append, List.append_nil, List.drop_zero, List.drop_succ_cons, List.drop_nil, List.take_zero, List.take_succ_cons, List.take_nil, cond_true, cond_false, Bool.and_self, Bool.and_true, and_self, and_true, true_and, if_true, bind_some', Nat.add_zero, Nat.zero_add, Nat.reduceAdd, Nat.reduceLeDiff, ne_eq, not_false_eq_true, Nat.add_eq_zero_iff, Nat.reduceEqDiff, one_ne_zero', zero_ne_one', nne1, nne2, nne3, Nat.add_right_cancel_iff, Nat.add_left_cancel_iff, Nat.le_refl, reduceCtorEq, bind_some', aBin_lss, aBin_leq, aBin_gtr, aBin_geq, aBin_eql, aBin_neq, aBin_add, aBin_sub, aBin_mul, aBin_seql, aBin_sneq, aBinb_eql, aBinb_neq, aUn_not, aUn_neg, aSlen_str, extr0, extr1, extr2]
  refine Ok.gives (KnownPose_spec h s _) (plain2 h.plain (plain_str _)) fun m3 h3 => ?_
  simp only [poseV, retV_one, retV_two, retV_three, mkNew_agg, mkNew_zc, ld_top, ld_old, ld_setN, sto_top, sto_old, sto_setN, faddr_ptr, faddr_eptr, ld_eptr, new_m', new_n', setN_m', setN_n', st0_m', st0_n', put_m', put_n', AV.cells, AV.one, AV.stor, ldCells, setElem, splice, List.all_cons, List.all_nil, List.length_cons, List.length_nil, List.drop, List.take, List.head?_cons, List.getElem?_cons_zero, List.getElem?_cons_succ, List.set_cons_zero, List.nil_append, List.cons_append, List.append_nil, List.drop_zero, List.drop_succ_cons, List.drop_nil, List.take_zero, List.take_succ_cons, List.take_nil, cond_true, cond_false, Bool.and_self, Bool.and_true, and_self, and_true, true_and, if_true, bind_some', Nat.add_zero, Nat.zero_add, Nat.reduceAdd, Nat.reduceLeDiff, ne_eq, not_false_eq_true, Nat.add_eq_zero_iff, Nat.reduceEqDiff, one_ne_zero', zero_ne_one', nne1, nne2, nne3, Nat.add_right_cancel_iff, Nat.add_left_cancel_iff, Nat.le_refl, reduceCtorEq, bind_some', aBin_lss, aBin_leq, aBin_gtr, aBin_geq, aBin_eql, aBin_neq, aBin_add, aBin_sub, aBin_mul, aBin_seql, aBin_sneq, aBinb_eql, aBinb_neq, aUn_not, aUn_neg, aSlen_str, extr0, extr1, extr2]
  refine Ok.gives (IsFactorList_spec h s) (plain1 h.plain) fun m4 h4 => ?_
  simp only [poseV, retV_one, retV_two, retV_three, mkNew_agg, mkNew_zc, ld_top, ld_old, ld_setN, sto_top, sto_old, sto_setN, faddr_ptr, faddr_eptr, ld_eptr, new_m', new_n', setN_m', setN_n', st0_m', st0_n', put_m', put_n', AV.cells, AV.one, AV.stor, ldCells, setElem, splice, List.all_cons, List.all_nil, List.length_cons, List.length_nil, List.drop, List.take, List.head?_cons, List.getElem?_cons_zero, List.getElem?_cons_succ, List.set_cons_zero, List.nil_append, List.cons_append, List.append_nil, List.drop_zero, List.drop_succ_cons, List.drop_nil, List.take_zero, List.take_succ_cons, List.take_nil, cond_true, cond_false, Bool.and_self, Bool.and_true, and_self, and_true, true_and, if_true, bind_some', Nat.add_zero, Nat.zero_add, Nat.reduceAdd, Nat.reduceLeDiff, ne_eq, not_false_eq_true, Nat.add_eq_zero_iff, Nat.reduceEqDiff, one_ne_zero', zero_ne_one', nne1, nne2, nne3, Nat.add_right_cancel_iff, Nat.add_left_cancel_iff, Nat.le_refl, reduceCtorEq, bind_some', aBin_lss, aBin_leq, aBin_gtr, aBin_geq, aBin_eql, aBin_neq, aBin_add, aBin_sub, aBin_mul, aBin_seql, aBin_sneq, aBinb_eql, aBinb_neq, aUn_not, aUn_neg, aSlen_str, extr0, extr1, extr2]
  repeat' first
    | (refine Ok.cndnb (fun h => ?_) fun h => ?_)
  all_goals (try simp only [retV_one, retV_two, retV_three, mkNew_agg, mkNew_zc, ld_top, ld_old, ld_setN, sto_top, sto_old, sto_setN, faddr_ptr, faddr_eptr, ld_eptr, new_m', new_n', setN_m', setN_n', st0_m', st0_n', put_m', put_n', AV.cells, AV.one, AV.stor, ldCells, setElem, splice, List.all_cons, List.all_nil, List.length_cons, List.length_nil, List.drop, List.take, List.head?_cons, List.getElem?_cons_zero, List.getElem?_cons_succ, List.set_cons_zero, List.nil_append, List.cons_append, List.append_nil, List.drop_zero, List.drop_succ_cons, List.drop_nil, List.take_zero, List.take_succ_cons, List.take_nil, cond_true, cond_false, Bool.and_self, Bool.and_true, and_self, and_true, true_and, if_true, bind_some', Nat.add_zero, Nat.zero_add, Nat.reduceAdd, Nat.reduceLeDiff, ne_eq, not_false_eq_true, Nat.add_eq_zero_iff, Nat.reduceEqDiff, one_ne_zero', zero_ne_one', nne1, nne2, nne3, Nat.add_right_cancel_iff, Nat.add_left_cancel_iff, Nat.le_refl, reduceCtorEq, bind_some', aBin_lss, aBin_leq, aBin_gtr, aBin_geq, aBin_eql, aBin_neq, aBin_add, aBin_sub, aBin_mul, aBin_seql, aBin_sneq, aBinb_eql, aBinb_neq, aUn_not, aUn_neg, aSlen_str, extr0, extr1, extr2])
  all_goals refine Ok.ret (by first | rfl | (simp only [retV_one, retV_two, retV_three]; rfl)) (by (try simp only [new_n', setN_n', st0_n', put_n'] at *); first | omega | exact Nat.le_succ _ | exact Nat.le_refl _) ?_
  all_goals simp_all [loopM, facV, fac0, pose0]

theorem l21Chain_g {v : AV} {l : List Pos} (h : PosS v l) (hl : l.length ≤ 4294967296) : Gives i_spec_l21Chain [v] (.tup [poseV (chainM pose0 l).1, .bool (chainM pose0 l).2]) := by
  intro n
  rw [call_spec_l21Chain]
  simp only [retV_one, retV_two, retV_three, mkNew_agg, mkNew_zc, ld_top, ld_old, ld_setN, sto_top, sto_old, sto_setN, faddr_ptr, faddr_eptr, ld_eptr, new_m', new_n', setN_m', setN_n', st0_m', st0_n', put_m', put_n', AV.cells, AV.one, AV.stor, ldCells, setElem, splice, List.all_cons, List.all_nil, List.length_cons, List.length_nil, List.drop, List.take, List.head?_cons, List.getElem?_cons_zero, List.getElem?_cons_succ, List.set_cons_zero, List.nil_append, List.cons_append, List.append_nil, List.drop_zero, List.drop_succ_cons, List.drop_nil, List.take_zero, List.take_succ_cons, List.take_nil, cond_true, cond_false, Bool.and_self, Bool.and_true, and_self, and_true, true_and, if_true, bind_some', Nat.add_zero, Nat.zero_add, Nat.reduceAdd, Nat.reduceLeDiff, ne_eq, not_false_eq_true, Nat.add_eq_zero_iff, Nat.reduceEqDiff, one_ne_zero', zero_ne_one', nne1, nne2, nne3, Nat.add_right_cancel_iff, Nat.add_left_cancel_iff, Nat.le_refl, reduceCtorEq, SlOf.len h]
  refine Ok.bind (P := fun r => ∃ st', n ≤ st'.n ∧ st'.H 0 = some ⟨n, 3, [poseV pose0]⟩ ∧ ((r = (.exit 0, [.ptr 0 n 0 0, .undef, .ptr 1 (n + 1) 0 0], st') ∧ aLoad true 3 st' (.ptr 1 (n + 1) 0 0) = some (poseV (chainM pose0 l).1) ∧ (chainM pose0 l).2 = true) ∨ (r = (.ret, [.ptr 0 n 0 0, .bool false, .ptr 1 (n + 1) 0 0], st') ∧ chainM pose0 l = (pose0, false))))
    (Ok.loop (σ := Pos × St) (Lp := fun i s => L.loop [2, 4, 10, 11, 12] [2, 3, 4] b_spec_l21Chain_1 [.ptr 0 n 0 0, .ptr 1 (n + 1) 0 0, v, .int .i64 l.length, .int .i64 i] s.2) (I := fun i s => n ≤ s.2.n ∧ 1 < s.2.m ∧ s.2.H 0 = some ⟨n, 3, [poseV pose0]⟩ ∧ s.2.H 1 = some ⟨n + 1, 3, [poseV s.1]⟩ ∧ chainM s.1 (l.drop i) = chainM pose0 l) l.length ?_ ?_ l.length 0 (pose0, _) (by omega) ⟨?_, ?_, ?_, ?_, rfl⟩) ?_
  · rintro ⟨p, S⟩ ⟨h1, h2, h3, h4, h5⟩
    dsimp only at h1 h2 h3 h4 h5
    rw [loop_spec_l21Chain_1]
    simp only [bind_some', aBin_lss, cnd_dec, Int.lt_irrefl, if_false]
    rw [List.drop_length] at h5
    refine ⟨_, rfl, S, h1, h3, .inl ⟨rfl, ?_, by rw [← h5]; rfl⟩⟩
    rw [← h5]
    simp [aLoad, get_H h4, chainM, poseV, AV.cells, ldCells]
  · rintro i ⟨p, S⟩ hi ⟨h1, h2, h3, h4, h5⟩ ih
    dsimp only at h1 h2 h3 h4 h5
    have ia := h.atE hi .i64
    have hpa : pa l i = l[i] := by simp [pa, List.getElem?_eq_getElem hi]
    rw [List.drop_eq_getElem_cons hi] at h5
    have z1 : ¬ 1 = S.m := by omega
    have z0 : ¬ 0 = S.m := by omega
    have z3 : ¬ 1 = S.m + 1 := by omega
    have z4 : ¬ 0 = S.m + 1 := by omega
    have hl1 : aLoad true 3 S (.ptr 1 (n + 1) 0 0) = some (poseV p) := by simp [aLoad, get_H h4, poseV, AV.cells, ldCells]
    rw [loop_spec_l21Chain_1]
    simp only [bind_some', aBin_lss, aBin_leq, aBin_gtr, aBin_geq, aBin_eql, aBin_neq, aBin_add, aBin_sub, aBin_mul, aBin_seql, aBin_sneq, aBinb_eql, aBinb_neq, aUn_not, aUn_neg, aSlen_str, extr0, extr1, extr2, ia, hpa]
    refine Ok.cnd (fun _ => ?_) fun hf => absurd hf (by omega)
    simp only [retV_one, retV_two, retV_three, mkNew_agg, mkNew_zc, ld_top, ld_old, ld_setN, sto_top, setN_setN, faddr_ptr, faddr_eptr, ld_eptr, new_m', new_n', setN_m', setN_n', st0_m', st0_n', put_m', put_n', AV.cells, AV.one, AV.stor, ldCells, setElem, splice, List.all_cons, List.all_nil, List.length_cons, List.length_nil, List.drop, List.take, List.head?_cons, List.getElem?_cons_zero, List.getElem?_cons_succ, List.set_cons_zero, List.nil_append, List.cons_append, List.append_nil, List.drop_zero, List.drop_succ_cons, List.drop_nil, List.take_zero, List.take_succ_cons, List.take_nil, cond_true, cond_false, Bool.and_self, Bool.and_true, and_self, and_true, true_and, if_true, bind_some', Nat.add_zero, Nat.zero_add, Nat.reduceAdd, Nat.reduceLeDiff, ne_eq, not_false_eq_true, Nat.add_eq_zero_iff, Nat.reduceEqDiff, one_ne_zero', zero_ne_one', nne1, nne2, nne3, Nat.add_right_cancel_iff, Nat.add_left_cancel_iff, Nat.le_refl, reduceCtorEq, z1, z0, z3, z4, hl1]
    refine Ok.gives (compose_spec p l[i]) (pB rfl) fun m hm => ?_
    have hm' : S.n + 1 ≤ m := hm
    simp only [poseV, retV_one, retV_two, retV_three, mkNew_agg, mkNew_zc, ld_top, ld_old, ld_setN, sto_top, setN_setN, faddr_ptr, faddr_eptr, ld_eptr, new_m', new_n', setN_m', setN_n', st0_m', st0_n', put_m', put_n', AV.cells, AV.one, AV.stor, ldCells, setElem, splice, List.all_cons, List.all_nil, List.length_cons, List.length_nil, List.drop, List.take, List.head?_cons, List.getElem?_cons_zero, List.getElem?_cons_succ, List.set_cons_zero, List.nil_append, List.cons_append, List.append_nil, List.drop_zero, List.drop_succ_cons, List.drop_nil, List.take_zero, List.take_succ_cons, List.take_nil, cond_true, cond_false, Bool.and_self, Bool.and_true, and_self, and_true, true_and, if_true, bind_some', Nat.add_zero, Nat.zero_add, Nat.reduceAdd, Nat.reduceLeDiff, ne_eq, not_false_eq_true, Nat.add_eq_zero_iff, Nat.reduceEqDiff, one_ne_zero', zero_ne_one', nne1, nne2, nne3, Nat.add_right_cancel_iff, Nat.add_left_cancel_iff, Nat.le_refl, reduceCtorEq, bind_some', aBin_lss, aBin_leq, aBin_gtr, aBin_geq, aBin_eql, aBin_neq, aBin_add, aBin_sub, aBin_mul, aBin_seql, aBin_sneq, aBinb_eql, aBinb_neq, aUn_not, aUn_neg, aSlen_str, extr0, extr1, extr2]
    refine Ok.cndnb (fun hc => ?_) fun hc => ?_
    · obtain ⟨d1, d2⟩ := cell3 (S := ((S.new 3 [poseV l[i]]).setN m).new 3 [poseV (compM p l[i]).1]) (j := 0) (t := n) (p := pose0) (by rw [new_H_ne z4]; simp only [St.setN]; rw [new_H_ne z0]; exact h3) pose0
      simp only [poseV, pose0] at d1
      rw [show (aStore 3 (.ptr 0 n 0 0) zc_iii _) = _ from d1]
      refine ⟨_, rfl, _, ?_, put_H _ _ _, .inr ⟨rfl, ?_⟩⟩
      · simp only [put_n, setN_n, new_n]; omega
      · rw [← h5, chainM, if_neg (by rw [hc]; exact Bool.false_ne_true)]
    · obtain ⟨c1, _⟩ := cell3 (S := ((S.new 3 [poseV l[i]]).setN m).new 3 [poseV (compM p l[i]).1]) (j := 1) (t := n + 1) (p := p) (by rw [new_H_ne z3]; simp only [St.setN]; rw [new_H_ne z1]; exact h4) (compM p l[i]).1
      simp only [poseV] at c1
      simp only [c1, retV_one, retV_two, retV_three, mkNew_agg, mkNew_zc, ld_top, ld_old, ld_setN, sto_top, setN_setN, faddr_ptr, faddr_eptr, ld_eptr, new_m', new_n', setN_m', setN_n', st0_m', st0_n', put_m', put_n', AV.cells, AV.one, AV.stor, ldCells, setElem, splice, List.all_cons, List.all_nil, List.length_cons, List.length_nil, List.drop, List.take, List.head?_cons, List.getElem?_cons_zero, List.getElem?_cons_succ, List.set_cons_zero, List.nil_append, List.cons_append, List.append_nil, List.drop_zero, List.drop_succ_cons, List.drop_nil, List.take_zero, List.take_succ_cons, List.take_nil, cond_true, cond_false, Bool.and_self, Bool.and_true, and_self, and_true, true_and, if_true, bind_some', Nat.add_zero, Nat.zero_add, Nat.reduceAdd, Nat.reduceLeDiff, ne_eq, not_false_eq_true, Nat.add_eq_zero_iff, Nat.reduceEqDiff, one_ne_zero', zero_ne_one', nne1, nne2, nne3, Nat.add_right_cancel_iff, Nat.add_left_cancel_iff, Nat.le_refl, reduceCtorEq, bind_some', aBin_lss, aBin_leq, aBin_gtr, aBin_geq, aBin_eql, aBin_neq, aBin_add, aBin_sub, aBin_mul, aBin_seql, aBin_sneq, aBinb_eql, aBinb_neq, aUn_not, aUn_neg, aSlen_str, extr0, extr1, extr2]
      rw [wrap_i (by omega)]
      refine ih ((compM p l[i]).1, _) ⟨?_, ?_, ?_, put_H _ _ _, ?_⟩
      · simp only [put_n, setN_n, new_n]; omega
      · simp only [put_m, setN_m, new_m]; omega
      · show (St.put _ 1 ⟨n + 1, 3, [poseV (compM p l[i]).1]⟩).H 0 = _
        rw [put_H_ne (by omega), new_H_ne z4]; simp only [St.setN]; rw [new_H_ne z0]; exact h3
      · rw [← h5]; simp only [chainM, hc, if_true]
  · simp only [new_n', setN_n', st0_n']; omega
  · simp only [new_m', setN_m', st0_m']; omega
  · rfl
  · rfl
  · rintro _ ⟨st', hn, h3, ⟨rfl, h4, h5⟩ | ⟨rfl, h5⟩⟩
    · rw [k_spec_l21Chain_1_0]
      obtain ⟨c1, c2⟩ := cell3 h3 (chainM pose0 l).1
      simp only [h4, bind_some', c1, c2, retV_one, retV_two, retV_three, mkNew_agg, mkNew_zc, ld_top, ld_old, ld_setN, sto_top, setN_setN, faddr_ptr, faddr_eptr, ld_eptr, new_m', new_n', setN_m', setN_n', st0_m', st0_n', put_m', put_n', AV.cells, AV.one, AV.stor, ldCells, setElem, splice, List.all_cons, List.all_nil, List.length_cons, List.length_nil, List.drop, List.take, List.head?_cons, List.getElem?_cons_zero, List.getElem?_cons_succ, List.set_cons_zero, List.nil_append, List.cons_append, List.append_nil, List.drop_zero, List.drop_succ_cons, List.drop_nil, List.take_zero, List.take_succ_cons, List.take_nil, cond_true, cond_false, Bool.and_self, Bool.and_true, and_self, and_true, true_and, if_true, bind_some', Nat.add_zero, Nat.zero_add, Nat.reduceAdd, Nat.reduceLeDiff, ne_eq, not_false_eq_true, Nat.add_eq_zero_iff, Nat.reduceEqDiff, one_ne_zero', zero_ne_one', nne1, nne2, nne3, Nat.add_right_cancel_iff, Nat.add_left_cancel_iff, Nat.le_refl, reduceCtorEq]
      exact Ok.ret rfl hn (by rw [h5])
    · rw [k_spec_l21Chain_1_ret]
      have : aLoad true 3 st' (.ptr 0 n 0 0) = some (poseV pose0) := by simp [aLoad, get_H h3, poseV, AV.cells, ldCells]
      simp only [this, retV_one, retV_two, retV_three, mkNew_agg, mkNew_zc, ld_top, ld_old, ld_setN, sto_top, setN_setN, faddr_ptr, faddr_eptr, ld_eptr, new_m', new_n', setN_m', setN_n', st0_m', st0_n', put_m', put_n', AV.cells, AV.one, AV.stor, ldCells, setElem, splice, List.all_cons, List.all_nil, List.length_cons, List.length_nil, List.drop, List.take, List.head?_cons, List.getElem?_cons_zero, List.getElem?_cons_succ, List.set_cons_zero, List.nil_append, List.cons_append, List.append_nil, List.drop_zero, List.drop_succ_cons, List.drop_nil, List.take_zero, List.take_succ_cons, List.take_nil, cond_true, cond_false, Bool.and_self, Bool.and_true, and_self, and_true, true_and, if_true, bind_some', Nat.add_zero, Nat.zero_add, Nat.reduceAdd, Nat.reduceLeDiff, ne_eq, not_false_eq_true, Nat.add_eq_zero_iff, Nat.reduceEqDiff, one_ne_zero', zero_ne_one', nne1, nne2, nne3, Nat.add_right_cancel_iff, Nat.add_left_cancel_iff, Nat.le_refl, reduceCtorEq]
      exact Ok.ret rfl hn (by rw [h5])

theorem LoopError_spec {v : AV} {l : List Fac} (h : FS v l) (s : sm_FactorS l) (i j : Int) : Gives i_spec_LoopError [v, .int .i64 i, .int .i64 j] (.tup [poseV (errM l i j).1, .bool (errM l i j).2]) := by
  intro n
  rw [call_spec_LoopError]
  simp only [retV_one, retV_two, retV_three, mkNew_agg, mkNew_zc, ld_top, ld_old, ld_setN, sto_top, sto_old, sto_setN, faddr_ptr, faddr_eptr, ld_eptr, new_m', new_n', setN_m', setN_n', st0_m', st0_n', put_m', put_n', AV.cells, AV.one, AV.stor, ldCells, setElem, splice, List.all_cons, List.all_nil, List.length_cons, List.length_nil, List.drop, List.take, List.head?_cons, List.getElem?_cons_zero, List.getElem?_cons_succ, List.set_cons_zero, List.nil_append, List.cons_append, List.append_nil, List.drop_zero, List.drop_succ_cons, List.drop_nil, List.take_zero, List.take_succ_cons, List.take_nil, cond_true, cond_false, Bool.and_self, Bool.and_true, and_self, and_true, true_and, if_true, bind_some', Nat.add_zero, Nat.zero_add, Nat.reduceAdd, Nat.reduceLeDiff, ne_eq, not_false_eq_true, Nat.add_eq_zero_iff, Nat.reduceEqDiff, one_ne_zero', zero_ne_one', nne1, nne2, nne3, Nat.add_right_cancel_iff, Nat.add_left_cancel_iff, Nat.le_refl, reduceCtorEq]
  refine Ok.gives (LoopOf_spec h s i) (plain2 h.plain (plain_int _ _)) fun m1 h1 => ?_
  simp only [facV, retV_one, retV_two, retV_three, mkNew_agg, mkNew_zc, ld_top, ld_old, ld_setN, sto_top, sto_old, sto_setN, faddr_ptr, faddr_eptr, ld_eptr, new_m', new_n', setN_m', setN_n', st0_m', st0_n', put_m', put_n', AV.cells, AV.one, AV.stor, ldCells, setElem, splice, List.all_cons, List.all_nil, List.length_cons, List.length_nil, List.drop, List.take, List.head?_cons, List.getElem?_cons_zero, List.getElem?_cons_succ, List.set_cons_zero, List.nil_append, List.cons_append, List.append_nil, List.drop_zero, List.drop_succ_cons, List.drop_nil, List.take_zero, List.take_succ_cons, List.take_nil, cond_true, cond_false, Bool.and_self, Bool.and_true, and_self, and_true, true_and, if_true, bind_some', Nat.add_zero, Nat.zero_add, Nat.reduceAdd, Nat.reduceLeDiff, ne_eq, not_false_eq_true, Nat.add_eq_zero_iff, Nat.reduceEqDiff, one_ne_zero', zero_ne_one', nne1, nne2, nne3, Nat.add_right_cancel_iff, Nat.add_left_cancel_iff, Nat.le_refl, reduceCtorEq, bind_some', aBin_lss, aBin_leq, aBin_gtr, aBin_geq, aBin_eql, aBin_neq, aBin_add, aBin_sub, aBin_mul, aBin_seql, aBin_sneq, aBinb_eql, aBinb_neq, aUn_not, aUn_neg, aSlen_str, extr0, extr1, extr2]
  refine Ok.gives (LoopOf_spec h s j) (plain2 h.plain (plain_int _ _)) fun m2 h2 => ?_
  simp only [facV, retV_one, retV_two, retV_three, mkNew_agg, mkNew_zc, ld_top, ld_old, ld_setN, sto_top, sto_old, sto_setN, faddr_ptr, faddr_eptr, ld_eptr, new_m', new_n', setN_m', setN_n', st0_m', st0_n', put_m', put_n', AV.cells, AV.one, AV.stor, ldCells, setElem, splice, List.all_cons, List.all_nil, List.length_cons, List.length_nil, List.drop, List.take, List.head?_cons, List.getElem?_cons_zero, List.getElem?_cons_succ, List.set_cons_zero, List.nil_append, List.cons_append, List.append_nil, List.drop_zero, List.drop_succ_cons, List.drop_nil, List.take_zero, List.take_succ_cons, List.take_nil, cond_true, cond_false, Bool.and_self, Bool.and_true, and_self, and_true, true_and, if_true, bind_some', Nat.add_zero, Nat.zero_add, Nat.reduceAdd, Nat.reduceLeDiff, ne_eq, not_false_eq_true, Nat.add_eq_zero_iff, Nat.reduceEqDiff, one_ne_zero', zero_ne_one', nne1, nne2, nne3, Nat.add_right_cancel_iff, Nat.add_left_cancel_iff, Nat.le_refl, reduceCtorEq, bind_some', aBin_lss, aBin_leq, aBin_gtr, aBin_geq, aBin_eql, aBin_neq, aBin_add, aBin_sub, aBin_mul, aBin_seql, aBin_sneq, aBinb_eql, aBinb_neq, aUn_not, aUn_neg, aSlen_str, extr0, extr1, extr2]
  refine Ok.cndnb (fun hi => ?_) fun hi => ?_
  · (try simp only [retV_one, retV_two, retV_three, mkNew_agg, mkNew_zc, ld_top, ld_old, ld_setN, sto_top, sto_old, sto_setN, faddr_ptr, faddr_eptr, ld_eptr, new_m', new_n', setN_m', setN_n', st0_m', st0_n', put_m', put_n', AV.cells, AV.one, AV.stor, ldCells, setElem, splice, List.all_cons, List.all_nil, List.length_cons, List.length_nil, List.drop, List.take, List.head?_cons, List.getElem?_cons_zero, List.getElem?_cons_succ, List.set_cons_zero, List.nil_append, List.cons_append, List.append_nil, List.drop_zero, List.drop_succ_cons, List.drop_nil, List.take_zero, List.take_succ_cons, List.take_nil, cond_true, cond_false, Bool.and_self, Bool.and_true, and_self, and_true, true_and, if_true, bind_some', Nat.add_zero, Nat.zero_add, Nat.reduceAdd, Nat.reduceLeDiff, ne_eq, not_false_eq_true, Nat.add_eq_zero_iff, Nat.reduceEqDiff, one_ne_zero', zero_ne_one', nne1, nne2, nne3, Nat.add_right_cancel_iff, Nat.add_left_cancel_iff, Nat.le_refl, reduceCtorEq, bind_some', aBin_lss, aBin_leq, aBin_gtr, aBin_geq, aBin_eql, aBin_neq, aBin_add, aBin_sub, aBin_mul, aBin_seql, aBin_sneq, aBinb_eql, aBinb_neq, aUn_not, aUn_neg, aSlen_str, extr0, extr1, extr2])
    refine Ok.ret (by first | rfl | (simp only [retV_one, retV_two, retV_three]; rfl)) (by (try simp only [new_n', setN_n', st0_n', put_n'] at *); first | omega | exact Nat.le_succ _ | exact Nat.le_refl _) ?_
    simp_all [errM, pose0, poseV]
  refine Ok.cndnb (fun hj => ?_) fun hj => ?_
  · (try simp only [retV_one, retV_two, retV_three, mkNew_agg, mkNew_zc, ld_top, ld_old, ld_setN, sto_top, sto_old, sto_setN, faddr_ptr, faddr_eptr, ld_eptr, new_m', new_n', setN_m', setN_n', st0_m', st0_n', put_m', put_n', AV.cells, AV.one, AV.stor, ldCells, setElem, splice, List.all_cons, List.all_nil, List.length_cons, List.length_nil, List.drop, List.take, List.head?_cons, List.getElem?_cons_zero, List.getElem?_cons_succ, List.set_cons_zero, List.nil_append, List.cons_append, List.append_nil, List.drop_zero, List.drop_succ_cons, List.drop_nil, List.take_zero, List.take_succ_cons, List.take_nil, cond_true, cond_false, Bool.and_self, Bool.and_true, and_self, and_true, true_and, if_true, bind_some', Nat.add_zero, Nat.zero_add, Nat.reduceAdd, Nat.reduceLeDiff, ne_eq, not_false_eq_true, Nat.add_eq_zero_iff, Nat.reduceEqDiff, one_ne_zero', zero_ne_one', nne1, nne2, nne3, Nat.add_right_cancel_iff, Nat.add_left_cancel_iff, Nat.le_refl, reduceCtorEq, bind_some', aBin_lss, aBin_leq, aBin_gtr, aBin_geq, aBin_eql, aBin_neq, aBin_add, aBin_sub, aBin_mul, aBin_seql, aBin_sneq, aBinb_eql, aBinb_neq, aUn_not, aUn_neg, aSlen_str, extr0, extr1, extr2])
    refine Ok.ret (by first | rfl | (simp only [retV_one, retV_two, retV_three]; rfl)) (by (try simp only [new_n', setN_n', st0_n', put_n'] at *); first | omega | exact Nat.le_succ _ | exact Nat.le_refl _) ?_
    simp_all [errM, pose0, poseV]
  refine Ok.gives (KnownPose_spec h s _) (plain2 h.plain (plain_str _)) fun m3 h3 => ?_
  simp only [poseV, retV_one, retV_two, retV_three, mkNew_agg, mkNew_zc, ld_top, ld_old, ld_setN, sto_top, sto_old, sto_setN, faddr_ptr, faddr_eptr, ld_eptr, new_m', new_n', setN_m', setN_n', st0_m', st0_n', put_m', put_n', AV.cells, AV.one, AV.stor, ldCells, setElem, splice, List.all_cons, List.all_nil, List.length_cons, List.length_nil, List.drop, List.take, List.head?_cons, List.getElem?_cons_zero, List.getElem?_cons_succ, List.set_cons_zero, List.nil_append, List.cons_append, List.append_nil, List.drop_zero, List.drop_succ_cons, List.drop_nil, List.take_zero, List.take_succ_cons, List.take_nil, cond_true, cond_false, Bool.and_self, Bool.and_true, and_self, and_true, true_and, if_true, bind_some', Nat.add_zero, Nat.zero_add, Nat.reduceAdd, Nat.reduceLeDiff, ne_eq, not_false_eq_true, Nat.add_eq_zero_iff, Nat.reduceEqDiff, one_ne_zero', zero_ne_one', nne1, nne2, nne3, Nat.add_right_cancel_iff, Nat.add_left_cancel_iff, Nat.le_refl, reduceCtorEq, bind_some', aBin_lss, aBin_leq, aBin_gtr, aBin_geq, aBin_eql, aBin_neq, aBin_add, aBin_sub, aBin_mul, aBin_seql, aBin_sneq, aBinb_eql, aBinb_neq, aUn_not, aUn_neg, aSlen_str, extr0, extr1, extr2]
  refine Ok.gives (KnownPose_spec h s _) (plain2 h.plain (plain_str _)) fun m4 h4 => ?_
  simp only [poseV, retV_one, retV_two, retV_three, mkNew_agg, mkNew_zc, ld_top, ld_old, ld_setN, sto_top, sto_old, sto_setN, faddr_ptr, faddr_eptr, ld_eptr, new_m', new_n', setN_m', setN_n', st0_m', st0_n', put_m', put_n', AV.cells, AV.one, AV.stor, ldCells, setElem, splice, List.all_cons, List.all_nil, List.length_cons, List.length_nil, List.drop, List.take, List.head?_cons, List.getElem?_cons_zero, List.getElem?_cons_succ, List.set_cons_zero, List.nil_append, List.cons_append, List.append_nil, List.drop_zero, List.drop_succ_cons, List.drop_nil, List.take_zero, List.take_succ_cons, List.take_nil, cond_true, cond_false, Bool.and_self, Bool.and_true, and_self, and_true, true_and, if_true, bind_some', Nat.add_zero, Nat.zero_add, Nat.reduceAdd, Nat.reduceLeDiff, ne_eq, not_false_eq_true, Nat.add_eq_zero_iff, Nat.reduceEqDiff, one_ne_zero', zero_ne_one', nne1, nne2, nne3, Nat.add_right_cancel_iff, Nat.add_left_cancel_iff, Nat.le_refl, reduceCtorEq, bind_some', aBin_lss, aBin_leq, aBin_gtr, aBin_geq, aBin_eql, aBin_neq, aBin_add, aBin_sub, aBin_mul, aBin_seql, aBin_sneq, aBinb_eql, aBinb_neq, aUn_not, aUn_neg, aSlen_str, extr0, extr1, extr2]
  refine Ok.gives (KnownPose_spec h s _) (plain2 h.plain (plain_str _)) fun m5 h5 => ?_
  simp only [poseV, retV_one, retV_two, retV_three, mkNew_agg, mkNew_zc, ld_top, ld_old, ld_setN, sto_top, sto_old, sto_setN, faddr_ptr, faddr_eptr, ld_eptr, new_m', new_n', setN_m', setN_n', st0_m', st0_n', put_m', put_n', AV.cells, AV.one, AV.stor, ldCells, setElem, splice, List.all_cons, List.all_nil, List.length_cons, List.length_nil, List.drop, List.take, List.head?_cons, List.getElem?_cons_zero, List.getElem?_cons_succ, List.set_cons_zero, List.nil_append, List.cons_append, List.append_nil, List.drop_zero, List.drop_succ_cons, List.drop_nil, List.take_zero, List.take_succ_cons, List.take_nil, cond_true, cond_false, Bool.and_self, Bool.and_true, and_self, and_true, true_and, if_true, bind_some', Nat.add_zero, Nat.zero_add, Nat.reduceAdd, Nat.reduceLeDiff, ne_eq, not_false_eq_true, Nat.add_eq_zero_iff, Nat.reduceEqDiff, one_ne_zero', zero_ne_one', nne1, nne2, nne3, Nat.add_right_cancel_iff, Nat.add_left_cancel_iff, Nat.le_refl, reduceCtorEq, bind_some', aBin_lss, aBin_leq, aBin_gtr, aBin_geq, aBin_eql, aBin_neq, aBin_add, aBin_sub, aBin_mul, aBin_seql, aBin_sneq, aBinb_eql, aBinb_neq, aUn_not, aUn_neg, aSlen_str, extr0, extr1, extr2]
  refine Ok.gives (KnownPose_spec h s _) (plain2 h.plain (plain_str _)) fun m6 h6 => ?_
  simp only [poseV, retV_one, retV_two, retV_three, mkNew_agg, mkNew_zc, ld_top, ld_old, ld_setN, sto_top, sto_old, sto_setN, faddr_ptr, faddr_eptr, ld_eptr, new_m', new_n', setN_m', setN_n', st0_m', st0_n', put_m', put_n', AV.cells, AV.one, AV.stor, ldCells, setElem, splice, List.all_cons, List.all_nil, List.length_cons, List.length_nil, List.drop, List.take, List.head?_cons, List.getElem?_cons_zero, List.getElem?_cons_succ, List.set_cons_zero, List.nil_append, List.cons_append, List.append_nil, List.drop_zero, List.drop_succ_cons, List.drop_nil, List.take_zero, List.take_succ_cons, List.take_nil, cond_true, cond_false, Bool.and_self, Bool.and_true, and_self, and_true, true_and, if_true, bind_some', Nat.add_zero, Nat.zero_add, Nat.reduceAdd, Nat.reduceLeDiff, ne_eq, not_false_eq_true, Nat.add_eq_zero_iff, Nat.reduceEqDiff, one_ne_zero', zero_ne_one', nne1, nne2, nne3, Nat.add_right_cancel_iff, Nat.add_left_cancel_iff, Nat.le_refl, reduceCtorEq, bind_some', aBin_lss, aBin_leq, aBin_gtr, aBin_geq, aBin_eql, aBin_neq, aBin_add, aBin_sub, aBin_mul, aBin_seql, aBin_sneq, aBinb_eql, aBinb_neq, aUn_not, aUn_neg, aSlen_str, extr0, extr1, extr2]
  refine Ok.gives (Inverse_spec (knownM l (loopM l i).1.to).1) (pB rfl) fun m7 h7 => ?_
  simp only [poseV, retV_one, retV_two, retV_three, mkNew_agg, mkNew_zc, ld_top, ld_old, ld_setN, sto_top, sto_old, sto_setN, faddr_ptr, faddr_eptr, ld_eptr, new_m', new_n', setN_m', setN_n', st0_m', st0_n', put_m', put_n', AV.cells, AV.one, AV.stor, ldCells, setElem, splice, List.all_cons, List.all_nil, List.length_cons, List.length_nil, List.drop, List.take, List.head?_cons, List.getElem?_cons_zero, List.getElem?_cons_succ, List.set_cons_zero, List.nil_append, List.cons_append, List.append_nil, List.drop_zero, List.drop_succ_cons, List.drop_nil, List.take_zero, List.take_succ_cons, List.take_nil, cond_true, cond_false, Bool.and_self, Bool.and_true, and_self, and_true, true_and, if_true, bind_some', Nat.add_zero, Nat.zero_add, Nat.reduceAdd, Nat.reduceLeDiff, ne_eq, not_false_eq_true, Nat.add_eq_zero_iff, Nat.reduceEqDiff, one_ne_zero', zero_ne_one', nne1, nne2, nne3, Nat.add_right_cancel_iff, Nat.add_left_cancel_iff, Nat.le_refl, reduceCtorEq, bind_some', aBin_lss, aBin_leq, aBin_gtr, aBin_geq, aBin_eql, aBin_neq, aBin_add, aBin_sub, aBin_mul, aBin_seql, aBin_sneq, aBinb_eql, aBinb_neq, aUn_not, aUn_neg, aSlen_str, extr0, extr1, extr2]
  refine Ok.gives (compose_spec (invM (knownM l (loopM l i).1.to).1) (knownM l (loopM l j).1.to).1) (pB rfl) fun m8 h8 => ?_
  simp only [poseV, retV_one, retV_two, retV_three, mkNew_agg, mkNew_zc, ld_top, ld_old, ld_setN, sto_top, sto_old, sto_setN, faddr_ptr, faddr_eptr, ld_eptr, new_m', new_n', setN_m', setN_n', st0_m', st0_n', put_m', put_n', AV.cells, AV.one, AV.stor, ldCells, setElem, splice, List.all_cons, List.all_nil, List.length_cons, List.length_nil, List.drop, List.take, List.head?_cons, List.getElem?_cons_zero, List.getElem?_cons_succ, List.set_cons_zero, List.nil_append, List.cons_append, List.append_nil, List.drop_zero, List.drop_succ_cons, List.drop_nil, List.take_zero, List.take_succ_cons, List.take_nil, cond_true, cond_false, Bool.and_self, Bool.and_true, and_self, and_true, true_and, if_true, bind_some', Nat.add_zero, Nat.zero_add, Nat.reduceAdd, Nat.reduceLeDiff, ne_eq, not_false_eq_true, Nat.add_eq_zero_iff, Nat.reduceEqDiff, one_ne_zero', zero_ne_one', nne1, nne2, nne3, Nat.add_right_cancel_iff, Nat.add_left_cancel_iff, Nat.le_refl, reduceCtorEq, bind_some', aBin_lss, aBin_leq, aBin_gtr, aBin_geq, aBin_eql, aBin_neq, aBin_add, aBin_sub, aBin_mul, aBin_seql, aBin_sneq, aBinb_eql, aBinb_neq, aUn_not, aUn_neg, aSlen_str, extr0, extr1, extr2]
  refine Ok.gives (Inverse_spec (knownM l (loopM l j).1.frm).1) (pB rfl) fun m9 h9 => ?_
  simp only [poseV, retV_one, retV_two, retV_three, mkNew_agg, mkNew_zc, ld_top, ld_old, ld_setN, sto_top, sto_old, sto_setN, faddr_ptr, faddr_eptr, ld_eptr, new_m', new_n', setN_m', setN_n', st0_m', st0_n', put_m', put_n', AV.cells, AV.one, AV.stor, ldCells, setElem, splice, List.all_cons, List.all_nil, List.length_cons, List.length_nil, List.drop, List.take, List.head?_cons, List.getElem?_cons_zero, List.getElem?_cons_succ, List.set_cons_zero, List.nil_append, List.cons_append, List.append_nil, List.drop_zero, List.drop_succ_cons, List.drop_nil, List.take_zero, List.take_succ_cons, List.take_nil, cond_true, cond_false, Bool.and_self, Bool.and_true, and_self, and_true, true_and, if_true, bind_some', Nat.add_zero, Nat.zero_add, Nat.reduceAdd, Nat.reduceLeDiff, ne_eq, not_false_eq_true, Nat.add_eq_zero_iff, Nat.reduceEqDiff, one_ne_zero', zero_ne_one', nne1, nne2, nne3, Nat.add_right_cancel_iff, Nat.add_left_cancel_iff, Nat.le_refl, reduceCtorEq, bind_some', aBin_lss, aBin_leq, aBin_gtr, aBin_geq, aBin_eql, aBin_neq, aBin_add, aBin_sub, aBin_mul, aBin_seql, aBin_sneq, aBinb_eql, aBinb_neq, aUn_not, aUn_neg, aSlen_str, extr0, extr1, extr2]
  refine Ok.gives (compose_spec (invM (knownM l (loopM l j).1.frm).1) (knownM l (loopM l i).1.frm).1) (pB rfl) fun m10 h10 => ?_
  simp only [poseV, retV_one, retV_two, retV_three, mkNew_agg, mkNew_zc, ld_top, ld_old, ld_setN, sto_top, sto_old, sto_setN, faddr_ptr, faddr_eptr, ld_eptr, new_m', new_n', setN_m', setN_n', st0_m', st0_n', put_m', put_n', AV.cells, AV.one, AV.stor, ldCells, setElem, splice, List.all_cons, List.all_nil, List.length_cons, List.length_nil, List.drop, List.take, List.head?_cons, List.getElem?_cons_zero, List.getElem?_cons_succ, List.set_cons_zero, List.nil_append, List.cons_append, List.append_nil, List.drop_zero, List.drop_succ_cons, List.drop_nil, List.take_zero, List.take_succ_cons, List.take_nil, cond_true, cond_false, Bool.and_self, Bool.and_true, and_self, and_true, true_and, if_true, bind_some', Nat.add_zero, Nat.zero_add, Nat.reduceAdd, Nat.reduceLeDiff, ne_eq, not_false_eq_true, Nat.add_eq_zero_iff, Nat.reduceEqDiff, one_ne_zero', zero_ne_one', nne1, nne2, nne3, Nat.add_right_cancel_iff, Nat.add_left_cancel_iff, Nat.le_refl, reduceCtorEq, bind_some', aBin_lss, aBin_leq, aBin_gtr, aBin_geq, aBin_eql, aBin_neq, aBin_add, aBin_sub, aBin_mul, aBin_seql, aBin_sneq, aBinb_eql, aBinb_neq, aUn_not, aUn_neg, aSlen_str, extr0, extr1, extr2]
  refine Ok.cndnb (fun ha => ?_) fun ha => ?_
  · (try simp only [retV_one, retV_two, retV_three, mkNew_agg, mkNew_zc, ld_top, ld_old, ld_setN, sto_top, sto_old, sto_setN, faddr_ptr, faddr_eptr, ld_eptr, new_m', new_n', setN_m', setN_n', st0_m', st0_n', put_m', put_n', AV.cells, AV.one, AV.stor, ldCells, setElem, splice, List.all_cons, List.all_nil, List.length_cons, List.length_nil, List.drop, List.take, List.head?_cons, List.getElem?_cons_zero, List.getElem?_cons_succ, List.set_cons_zero, List.nil_append, List.cons_append, List.append_nil, List.drop_zero, List.drop_succ_cons, List.drop_nil, List.take_zero, List.take_succ_cons, List.take_nil, cond_true, cond_false, Bool.and_self, Bool.and_true, and_self, and_true, true_and, if_true, bind_some', Nat.add_zero, Nat.zero_add, Nat.reduceAdd, Nat.reduceLeDiff, ne_eq, not_false_eq_true, Nat.add_eq_zero_iff, Nat.reduceEqDiff, one_ne_zero', zero_ne_one', nne1, nne2, nne3, Nat.add_right_cancel_iff, Nat.add_left_cancel_iff, Nat.le_refl, reduceCtorEq, bind_some', aBin_lss, aBin_leq, aBin_gtr, aBin_geq, aBin_eql, aBin_neq, aBin_add, aBin_sub, aBin_mul, aBin_seql, aBin_sneq, aBinb_eql, aBinb_neq, aUn_not, aUn_neg, aSlen_str, extr0, extr1, extr2])
    refine Ok.ret (by first | rfl | (simp only [retV_one, retV_two, retV_three]; rfl)) (by (try simp only [new_n', setN_n', st0_n', put_n'] at *); first | omega | exact Nat.le_succ _ | exact Nat.le_refl _) ?_
    simp_all [errM, pose0, poseV]
  refine Ok.cndnb (fun hb => ?_) fun hb => ?_
  · (try simp only [retV_one, retV_two, retV_three, mkNew_agg, mkNew_zc, ld_top, ld_old, ld_setN, sto_top, sto_old, sto_setN, faddr_ptr, faddr_eptr, ld_eptr, new_m', new_n', setN_m', setN_n', st0_m', st0_n', put_m', put_n', AV.cells, AV.one, AV.stor, ldCells, setElem, splice, List.all_cons, List.all_nil, List.length_cons, List.length_nil, List.drop, List.take, List.head?_cons, List.getElem?_cons_zero, List.getElem?_cons_succ, List.set_cons_zero, List.nil_append, List.cons_append, List.append_nil, List.drop_zero, List.drop_succ_cons, List.drop_nil, List.take_zero, List.take_succ_cons, List.take_nil, cond_true, cond_false, Bool.and_self, Bool.and_true, and_self, and_true, true_and, if_true, bind_some', Nat.add_zero, Nat.zero_add, Nat.reduceAdd, Nat.reduceLeDiff, ne_eq, not_false_eq_true, Nat.add_eq_zero_iff, Nat.reduceEqDiff, one_ne_zero', zero_ne_one', nne1, nne2, nne3, Nat.add_right_cancel_iff, Nat.add_left_cancel_iff, Nat.le_refl, reduceCtorEq, bind_some', aBin_lss, aBin_leq, aBin_gtr, aBin_geq, aBin_eql, aBin_neq, aBin_add, aBin_sub, aBin_mul, aBin_seql, aBin_sneq, aBinb_eql, aBinb_neq, aUn_not, aUn_neg, aSlen_str, extr0, extr1, extr2])
    refine Ok.ret (by first | rfl | (simp only [retV_one, retV_two, retV_three]; rfl)) (by (try simp only [new_n', setN_n', st0_n', put_n'] at *); first | omega | exact Nat.le_succ _ | exact Nat.le_refl _) ?_
    simp_all [errM, pose0, poseV]
  refine Ok.gives (Inverse_spec (loopM l j).1.p) (pB rfl) fun m11 h11 => ?_
  simp only [poseV, mkLit, mkSlice, List.replicate, List.length_replicate, List.set_cons_succ, Nat.reduceLT, retV_one, retV_two, retV_three, mkNew_agg, mkNew_zc, ld_top, ld_old, ld_setN, sto_top, sto_old, sto_setN, faddr_ptr, faddr_eptr, ld_eptr, new_m', new_n', setN_m', setN_n', st0_m', st0_n', put_m', put_n', AV.cells, AV.one, AV.stor, ldCells, setElem, splice, List.all_cons, List.all_nil, List.length_cons, List.length_nil, List.drop, List.take, List.head?_cons, List.getElem?_cons_zero, List.getElem?_cons_succ, List.set_cons_zero, List.nil_append, List.cons_append, List.append_nil, List.drop_zero, List.drop_succ_cons, List.drop_nil, List.take_zero, List.take_succ_cons, List.take_nil, cond_true, cond_false, Bool.and_self, Bool.and_true, and_self, and_true, true_and, if_true, bind_some', Nat.add_zero, Nat.zero_add, Nat.reduceAdd, Nat.reduceLeDiff, ne_eq, not_false_eq_true, Nat.add_eq_zero_iff, Nat.reduceEqDiff, one_ne_zero', zero_ne_one', nne1, nne2, nne3, Nat.add_right_cancel_iff, Nat.add_left_cancel_iff, Nat.le_refl, reduceCtorEq, bind_some', aBin_lss, aBin_leq, aBin_gtr, aBin_geq, aBin_eql, aBin_neq, aBin_add, aBin_sub, aBin_mul, aBin_seql, aBin_sneq, aBinb_eql, aBinb_neq, aUn_not, aUn_neg, aSlen_str, extr0, extr1, extr2]
  have hE : errM l i j = chainM pose0 [(loopM l i).1.p, (compM (invM (knownM l (loopM l i).1.to).1) (knownM l (loopM l j).1.to).1).1, invM (loopM l j).1.p, (compM (invM (knownM l (loopM l j).1.frm).1) (knownM l (loopM l i).1.frm).1).1] := by
    simp [errM, hi, hj, ha, hb]
  refine Ok.givesL (l21Chain_g (lit4_pos (loopM l i).1.p (compM (invM (knownM l (loopM l i).1.to).1) (knownM l (loopM l j).1.to).1).1 (invM (loopM l j).1.p) (compM (invM (knownM l (loopM l j).1.frm).1) (knownM l (loopM l i).1.frm).1).1 _) (by simp)) (mapO1 (lit4_res (loopM l i).1.p (compM (invM (knownM l (loopM l i).1.to).1) (knownM l (loopM l j).1.to).1).1 (invM (loopM l j).1.p) (compM (invM (knownM l (loopM l j).1.frm).1) (knownM l (loopM l i).1.frm).1).1 _)) (fun ls => reloc_tup fun w hw => by
    simp only [List.mem_cons, List.not_mem_nil, or_false] at hw
    rcases hw with rfl | rfl
    · exact ⟨.inr ⟨_, rfl, rfl⟩, by simp [poseV, AV.tags, tagsL]⟩
    · exact ⟨.inl rfl, by simp [AV.tags]⟩) fun m12 h12 => ?_
  simp only [poseV, retV_one, retV_two, retV_three, mkNew_agg, mkNew_zc, ld_top, ld_old, ld_setN, sto_top, sto_old, sto_setN, faddr_ptr, faddr_eptr, ld_eptr, new_m', new_n', setN_m', setN_n', st0_m', st0_n', put_m', put_n', AV.cells, AV.one, AV.stor, ldCells, setElem, splice, List.all_cons, List.all_nil, List.length_cons, List.length_nil, List.drop, List.take, List.head?_cons, List.getElem?_cons_zero, List.getElem?_cons_succ, List.set_cons_zero, List.nil_append, List.cons_append, List.append_nil, List.drop_zero, List.drop_succ_cons, List.drop_nil, List.take_zero, List.take_succ_cons, List.take_nil, cond_true, cond_false, Bool.and_self, Bool.and_true, and_self, and_true, true_and, if_true, bind_some', Nat.add_zero, Nat.zero_add, Nat.reduceAdd, Nat.reduceLeDiff, ne_eq, not_false_eq_true, Nat.add_eq_zero_iff, Nat.reduceEqDiff, one_ne_zero', zero_ne_one', nne1, nne2, nne3, Nat.add_right_cancel_iff, Nat.add_left_cancel_iff, Nat.le_refl, reduceCtorEq, bind_some', aBin_lss, aBin_leq, aBin_gtr, aBin_geq, aBin_eql, aBin_neq, aBin_add, aBin_sub, aBin_mul, aBin_seql, aBin_sneq, aBinb_eql, aBinb_neq, aUn_not, aUn_neg, aSlen_str, extr0, extr1, extr2]
  refine Ok.ret (by first | rfl | (simp only [retV_one, retV_two, retV_three]; rfl)) (by (try simp only [new_n', setN_n', st0_n', put_n'] at *); first | omega | exact Nat.le_succ _ | exact Nat.le_refl _) ?_
  rw [hE]

theorem l17Size_g (x : Int) (hx : -1000000 ≤ x ∧ x ≤ 1000000) : Gives i_spec_l17Size [.int .i64 x] (.int .i64 (absM x)) := by
  intro n
  rw [call_spec_l17Size]
  simp only [retV_one, retV_two, retV_three, mkNew_agg, mkNew_zc, ld_top, ld_old, ld_setN, sto_top, sto_old, sto_setN, faddr_ptr, faddr_eptr, ld_eptr, new_m', new_n', setN_m', setN_n', st0_m', st0_n', put_m', put_n', AV.cells, AV.one, AV.stor, ldCells, setElem, splice, List.all_cons, List.all_nil, List.length_cons, List.length_nil, List.drop, List.take, List.head?_cons, List.getElem?_cons_zero, List.getElem?_cons_succ, List.set_cons_zero, List.nil_append, List.cons_append, List.append_nil, List.drop_zero, List.drop_succ_cons, List.drop_nil, List.take_zero, List.take_succ_cons, List.take_nil, cond_true, cond_false, Bool.and_self, Bool.and_true, and_self, and_true, true_and, if_true, bind_some', Nat.add_zero, Nat.zero_add, Nat.reduceAdd, Nat.reduceLeDiff, ne_eq, not_false_eq_true, Nat.add_eq_zero_iff, Nat.reduceEqDiff, one_ne_zero', zero_ne_one', nne1, nne2, nne3, Nat.add_right_cancel_iff, Nat.add_left_cancel_iff, Nat.le_refl, reduceCtorEq, bind_some', aBin_lss, aBin_leq, aBin_gtr, aBin_geq, aBin_eql, aBin_neq, aBin_add, aBin_sub, aBin_mul, aBin_seql, aBin_sneq, aBinb_eql, aBinb_neq, aUn_not, aUn_neg, aSlen_str, extr0, extr1, extr2]
  refine Ok.cnd (fun h => ?_) fun h => ?_
  · refine Ok.reti (by (try simp only [new_n', setN_n', st0_n', put_n'] at *); first | omega | exact Nat.le_succ _ | exact Nat.le_refl _) ?_
    rw [wrap_i (by omega)]; simp [absM, h]
  · refine Ok.reti (by (try simp only [new_n', setN_n', st0_n', put_n'] at *); first | omega | exact Nat.le_succ _ | exact Nat.le_refl _) ?_
    simp [absM, h]
theorem LoopDistance_spec {v : AV} {l : List Fac} (h : FS v l) (s : sm_FactorS l) (i j : Int) : Gives i_spec_LoopDistance [v, .int .i64 i, .int .i64 j] (.int .i64 (distM l i j)) := by
  intro n
  rw [call_spec_LoopDistance]
  simp only [retV_one, retV_two, retV_three, mkNew_agg, mkNew_zc, ld_top, ld_old, ld_setN, sto_top, sto_old, sto_setN, faddr_ptr, faddr_eptr, ld_eptr, new_m', new_n', setN_m', setN_n', st0_m', st0_n', put_m', put_n', AV.cells, AV.one, AV.stor, ldCells, setElem, splice, List.all_cons, List.all_nil, List.length_cons, List.length_nil, List.drop, List.take, List.head?_cons, List.getElem?_cons_zero, List.getElem?_cons_succ, List.set_cons_zero, List.nil_append, List.cons_append, List.append_nil, List.drop_zero, List.drop_succ_cons, List.drop_nil, List.take_zero, List.take_succ_cons, List.take_nil, cond_true, cond_false, Bool.and_self, Bool.and_true, and_self, and_true, true_and, if_true, bind_some', Nat.add_zero, Nat.zero_add, Nat.reduceAdd, Nat.reduceLeDiff, ne_eq, not_false_eq_true, Nat.add_eq_zero_iff, Nat.reduceEqDiff, one_ne_zero', zero_ne_one', nne1, nne2, nne3, Nat.add_right_cancel_iff, Nat.add_left_cancel_iff, Nat.le_refl, reduceCtorEq]
  refine Ok.gives (LoopError_spec h s i j) (plain3 h.plain (plain_int _ _) (plain_int _ _)) fun m1 h1 => ?_
  have hb := errM_bound l i j
  simp only [poseOk, decide_eq_true_iff] at hb
  simp only [poseV, retV_one, retV_two, retV_three, mkNew_agg, mkNew_zc, ld_top, ld_old, ld_setN, sto_top, sto_old, sto_setN, faddr_ptr, faddr_eptr, ld_eptr, new_m', new_n', setN_m', setN_n', st0_m', st0_n', put_m', put_n', AV.cells, AV.one, AV.stor, ldCells, setElem, splice, List.all_cons, List.all_nil, List.length_cons, List.length_nil, List.drop, List.take, List.head?_cons, List.getElem?_cons_zero, List.getElem?_cons_succ, List.set_cons_zero, List.nil_append, List.cons_append, List.append_nil, List.drop_zero, List.drop_succ_cons, List.drop_nil, List.take_zero, List.take_succ_cons, List.take_nil, cond_true, cond_false, Bool.and_self, Bool.and_true, and_self, and_true, true_and, if_true, bind_some', Nat.add_zero, Nat.zero_add, Nat.reduceAdd, Nat.reduceLeDiff, ne_eq, not_false_eq_true, Nat.add_eq_zero_iff, Nat.reduceEqDiff, one_ne_zero', zero_ne_one', nne1, nne2, nne3, Nat.add_right_cancel_iff, Nat.add_left_cancel_iff, Nat.le_refl, reduceCtorEq, bind_some', aBin_lss, aBin_leq, aBin_gtr, aBin_geq, aBin_eql, aBin_neq, aBin_add, aBin_sub, aBin_mul, aBin_seql, aBin_sneq, aBinb_eql, aBinb_neq, aUn_not, aUn_neg, aSlen_str, extr0, extr1, extr2]
  refine Ok.cndnb (fun ho => ?_) fun ho => ?_
  · refine Ok.reti (by (try simp only [new_n', setN_n', st0_n', put_n'] at *); first | omega | exact Nat.le_succ _ | exact Nat.le_refl _) ?_
    simp [distM, ho]
  refine Ok.cnd (fun ht => ?_) fun ht => ?_
  · refine Ok.reti (by (try simp only [new_n', setN_n', st0_n', put_n'] at *); first | omega | exact Nat.le_succ _ | exact Nat.le_refl _) ?_
    simp [distM, ho, ht]
  refine Ok.gives (l17Size_g (errM l i j).1.x (by omega)) (pB rfl) fun m2 h2 => ?_
  simp only [retV_one, retV_two, retV_three, mkNew_agg, mkNew_zc, ld_top, ld_old, ld_setN, sto_top, sto_old, sto_setN, faddr_ptr, faddr_eptr, ld_eptr, new_m', new_n', setN_m', setN_n', st0_m', st0_n', put_m', put_n', AV.cells, AV.one, AV.stor, ldCells, setElem, splice, List.all_cons, List.all_nil, List.length_cons, List.length_nil, List.drop, List.take, List.head?_cons, List.getElem?_cons_zero, List.getElem?_cons_succ, List.set_cons_zero, List.nil_append, List.cons_append, List.append_nil, List.drop_zero, List.drop_succ_cons, List.drop_nil, List.take_zero, List.take_succ_cons, List.take_nil, cond_true, cond_false, Bool.and_self, Bool.and_true, and_self, and_true, true_and, if_true, bind_some', Nat.add_zero, Nat.zero_add, Nat.reduceAdd, Nat.reduceLeDiff, ne_eq, not_false_eq_true, Nat.add_eq_zero_iff, Nat.reduceEqDiff, one_ne_zero', zero_ne_one', nne1, nne2, nne3, Nat.add_right_cancel_iff, Nat.add_left_cancel_iff, Nat.le_refl, reduceCtorEq, bind_some', aBin_lss, aBin_leq, aBin_gtr, aBin_geq, aBin_eql, aBin_neq, aBin_add, aBin_sub, aBin_mul, aBin_seql, aBin_sneq, aBinb_eql, aBinb_neq, aUn_not, aUn_neg, aSlen_str, extr0, extr1, extr2]
  refine Ok.gives (l17Size_g (errM l i j).1.y (by omega)) (pB rfl) fun m3 h3 => ?_
  simp only [retV_one, retV_two, retV_three, mkNew_agg, mkNew_zc, ld_top, ld_old, ld_setN, sto_top, sto_old, sto_setN, faddr_ptr, faddr_eptr, ld_eptr, new_m', new_n', setN_m', setN_n', st0_m', st0_n', put_m', put_n', AV.cells, AV.one, AV.stor, ldCells, setElem, splice, List.all_cons, List.all_nil, List.length_cons, List.length_nil, List.drop, List.take, List.head?_cons, List.getElem?_cons_zero, List.getElem?_cons_succ, List.set_cons_zero, List.nil_append, List.cons_append, List.append_nil, List.drop_zero, List.drop_succ_cons, List.drop_nil, List.take_zero, List.take_succ_cons, List.take_nil, cond_true, cond_false, Bool.and_self, Bool.and_true, and_self, and_true, true_and, if_true, bind_some', Nat.add_zero, Nat.zero_add, Nat.reduceAdd, Nat.reduceLeDiff, ne_eq, not_false_eq_true, Nat.add_eq_zero_iff, Nat.reduceEqDiff, one_ne_zero', zero_ne_one', nne1, nne2, nne3, Nat.add_right_cancel_iff, Nat.add_left_cancel_iff, Nat.le_refl, reduceCtorEq, bind_some', aBin_lss, aBin_leq, aBin_gtr, aBin_geq, aBin_eql, aBin_neq, aBin_add, aBin_sub, aBin_mul, aBin_seql, aBin_sneq, aBinb_eql, aBinb_neq, aUn_not, aUn_neg, aSlen_str, extr0, extr1, extr2]
  refine Ok.reti (by (try simp only [new_n', setN_n', st0_n', put_n'] at *); first | omega | exact Nat.le_succ _ | exact Nat.le_refl _) ?_
  have ht : (errM l i j).1.t = 0 := Decidable.not_not.1 ht
  have : -9223372036854775808 ≤ absM (errM l i j).1.x + absM (errM l i j).1.y ∧ absM (errM l i j).1.x + absM (errM l i j).1.y ≤ 9223372036854775807 := by unfold absM; split <;> split <;> omega
  rw [wrap_i this]
  simp [distM, ho, ht]

theorem AreConsistent_spec {v : AV} {l : List Fac} (h : FS v l) (s : sm_FactorS l) (i j k : Int) : Gives i_spec_AreConsistent [v, .int .i64 i, .int .i64 j, .int .i64 k] (.bool (consM l i j k)) := by
  intro n
  rw [call_spec_AreConsistent]
  refine Ok.gives (LoopDistance_spec h s i j) (plain3 h.plain (plain_int _ _) (plain_int _ _)) fun m1 h1 => ?_
  simp only [retV_one, retV_two, retV_three, mkNew_agg, mkNew_zc, ld_top, ld_old, ld_setN, sto_top, sto_old, sto_setN, faddr_ptr, faddr_eptr, ld_eptr, new_m', new_n', setN_m', setN_n', st0_m', st0_n', put_m', put_n', AV.cells, AV.one, AV.stor, ldCells, setElem, splice, List.all_cons, List.all_nil, List.length_cons, List.length_nil, List.drop, List.take, List.head?_cons, List.getElem?_cons_zero, List.getElem?_cons_succ, List.set_cons_zero, List.nil_append, List.cons_append, List.append_nil, List.drop_zero, List.drop_succ_cons, List.drop_nil, List.take_zero, List.take_succ_cons, List.take_nil, cond_true, cond_false, Bool.and_self, Bool.and_true, and_self, and_true, true_and, if_true, bind_some', Nat.add_zero, Nat.zero_add, Nat.reduceAdd, Nat.reduceLeDiff, ne_eq, not_false_eq_true, Nat.add_eq_zero_iff, Nat.reduceEqDiff, one_ne_zero', zero_ne_one', nne1, nne2, nne3, Nat.add_right_cancel_iff, Nat.add_left_cancel_iff, Nat.le_refl, reduceCtorEq, bind_some', aBin_lss, aBin_leq, aBin_gtr, aBin_geq, aBin_eql, aBin_neq, aBin_add, aBin_sub, aBin_mul, aBin_seql, aBin_sneq, aBinb_eql, aBinb_neq, aUn_not, aUn_neg, aSlen_str, extr0, extr1, extr2]
  refine Ok.gives (l01In_g (distM l i j) 0 k) (pB rfl) fun m2 h2 => ?_
  simp only [retV_one, retV_two, retV_three, mkNew_agg, mkNew_zc, ld_top, ld_old, ld_setN, sto_top, sto_old, sto_setN, faddr_ptr, faddr_eptr, ld_eptr, new_m', new_n', setN_m', setN_n', st0_m', st0_n', put_m', put_n', AV.cells, AV.one, AV.stor, ldCells, setElem, splice, List.all_cons, List.all_nil, List.length_cons, List.length_nil, List.drop, List.take, List.head?_cons, List.getElem?_cons_zero, List.getElem?_cons_succ, List.set_cons_zero, List.nil_append, List.cons_append, List.append_nil, List.drop_zero, List.drop_succ_cons, List.drop_nil, List.take_zero, List.take_succ_cons, List.take_nil, cond_true, cond_false, Bool.and_self, Bool.and_true, and_self, and_true, true_and, if_true, bind_some', Nat.add_zero, Nat.zero_add, Nat.reduceAdd, Nat.reduceLeDiff, ne_eq, not_false_eq_true, Nat.add_eq_zero_iff, Nat.reduceEqDiff, one_ne_zero', zero_ne_one', nne1, nne2, nne3, Nat.add_right_cancel_iff, Nat.add_left_cancel_iff, Nat.le_refl, reduceCtorEq, bind_some', aBin_lss, aBin_leq, aBin_gtr, aBin_geq, aBin_eql, aBin_neq, aBin_add, aBin_sub, aBin_mul, aBin_seql, aBin_sneq, aBinb_eql, aBinb_neq, aUn_not, aUn_neg, aSlen_str, extr0, extr1, extr2]
  refine Ok.retb (by (try simp only [new_n', setN_n', st0_n', put_n'] at *); first | omega | exact Nat.le_succ _ | exact Nat.le_refl _) ?_
  simp [consM]

theorem flag_loop {ρ : Type} (Lp : Nat → Bool → Option ρ) (p : Nat → Bool) (n : Nat) (e : Bool → ρ) (he : ∀ b, Lp n b = some (e b)) (hs : ∀ i b, i < n → Lp i b = Lp (i + 1) (b && p i)) :
    ∀ k i b, i + k = n → Lp i b = some (e (b && allF p i k))
  | 0, i, b, h => by
    have : i = n := by omega
    subst this; rw [he]; simp [allF]
  | k + 1, i, b, h => by rw [hs i b (by omega), flag_loop Lp p n e he hs k (i + 1) _ (by omega)]; simp [allF, Bool.and_assoc]
theorem allF_congr {p q : Nat → Bool} : ∀ {k i : Nat}, (∀ j, i ≤ j → j < i + k → p j = q j) → allF p i k = allF q i k
  | 0, i, h => rfl
  | k + 1, i, h => by simp only [allF, h i (Nat.le_refl _) (by omega), allF_congr (k := k) (i := i + 1) fun j h1 h2 => h j (by omega) (by omega)]
/-- the vertices below m that are adjacent to all of l -/
def extP (g : List (List Bool)) (l : List Int) (m : Nat) : List Int := ((List.range m).filter fun (v : Nat) => allF (fun j => adjI g (v : Int) (vt l j)) 0 l.length).map Int.ofNat
def extM (g : List (List Bool)) (l : List Int) : List Int := if cliqueM g l = true then extP g l g.length else []
theorem extP_succ (g : List (List Bool)) (l : List Int) (m : Nat) : extP g l (m + 1) = extP g l m ++ if allF (fun j => adjI g m (vt l j)) 0 l.length = true then [(m : Int)] else [] := by
  unfold extP
  rw [List.range_succ, List.filter_append, List.map_append]
  congr 1
  by_cases h : allF (fun j => adjI g m (vt l j)) 0 l.length = true <;> simp [h]
theorem extP_length (g : List (List Bool)) (l : List Int) (m : Nat) : (extP g l m).length ≤ m := by
  unfold extP; rw [List.length_map]; exact Nat.le_trans (List.length_filter_le _ _) (by simp)
theorem cliqueM_in {g : List (List Bool)} {l : List Int} (h : cliqueM g l = true) : graphM g = true ∧ ∀ i, i < l.length → 0 ≤ vt l i ∧ vt l i ≤ (g.length : Int) - 1 := by
  simp only [cliqueM, Bool.and_eq_true] at h
  refine ⟨h.1, fun i hi => ?_⟩
  have := allF_iff.1 h.2 i (Nat.zero_le _) (by omega)
  simp only [cliqueAt, inR, Bool.and_eq_true, decide_eq_true_iff] at this
  exact this.1
theorem Ok.eq {f : Nat} {xs : List AV} {n : Nat} {r : AV} (h : L.call f xs n = some (r, n)) : Ok (L.call f xs n) fun p => n ≤ p.2 ∧ p.1 = r := ⟨_, h, Nat.le_refl _, rfl⟩
theorem clique_len {g : List (List Bool)} {l : List Int} (h : cliqueM g l = true) : l.length ≤ 12 := by
  have hr := cliqueM_in h
  obtain ⟨h12, _⟩ := graphM_rows hr.1
  simp only [cliqueM, Bool.and_eq_true] at h
  have key : ∀ i, i < l.length → (i : Int) ≤ vt l i := by
    intro i
    induction i with
    | zero => intro hi; have := (hr.2 0 hi).1; omega
    | succ i ih =>
      intro hi
      have h1 := ih (by omega)
      have h2 := allF_iff.1 h.2 (i + 1) (Nat.zero_le _) (by omega)
      simp only [cliqueAt, Bool.and_eq_true] at h2
      have h3 := allF_iff.1 h2.2 i (Nat.zero_le _) (by omega)
      simp only [Bool.and_eq_true, decide_eq_true_iff] at h3
      omega
  by_cases h0 : l.length ≤ 12
  · exact h0
  · have h1 := key 12 (by omega)
    have h2 := (hr.2 12 (by omega)).2
    omega

theorem ConsistencyGraph_spec0 {v : AV} {l : List Fac} (h : FS v l) (s : sm_FactorS l) (k : Int) (n : Nat) :
    Ok (L.call i_spec_ConsistencyGraph [v, .int .i64 k] n) fun p => n ≤ p.2 ∧ BSS p.1 (consGM l k) ∧ New 2 n p.2 p.1 := by
  have hl := s.1
  have hil := ids_length l 4
  rw [call_spec_ConsistencyGraph]
  rw [lit0_n]
  refine Ok.call (FactorIds_spec h hl 4 _) (plain2 h.plain (plain_int _ _)) fun ids n1 hp => ?_
  obtain ⟨hn1, hids, _⟩ : n + 1 ≤ n1 ∧ IS ids (idsM l 4) ∧ _ := hp
  refine Ok.gives (IsFactorList_spec h s) (plain1 h.plain) fun n2 hn2 => ?_
  have hn2' : n1 ≤ n2 := hn2
  simp only [aUn_not, bind_some']
  refine Ok.cndnb (fun hg => ?_) fun hg => ?_
  · rw [resTup_plain plain_nils]
    exact ⟨_, rfl, (show n ≤ n2 by omega), ⟨[], .inl ⟨rfl, rfl⟩, by simp [consGM, hg, All2]⟩, New.nils⟩
  simp only [SlOf.len hids, bind_some', aBin_lss, aBin_leq, aBin_gtr, aBin_geq, aBin_eql, aBin_neq, aBin_add, aBin_sub, aBin_mul, aBin_seql, aBin_sneq, aBinb_eql, aBinb_neq, aUn_not, aUn_neg, aSlen_str, extr0, extr1, extr2]
  refine Ok.cnd (fun h12 => ?_) fun h12 => ?_
  · rw [resTup_plain plain_nils]
    have : ¬ (idsM l 4).length ≤ 12 := by omega
    exact ⟨_, rfl, (show n ≤ n2 by omega), ⟨[], .inl ⟨rfl, rfl⟩, by simp [consGM, this, All2]⟩, New.nils⟩
  refine Ok.bind (P := fun r => ∃ w st, r = (.exit 0, [.undef, w], st) ∧ AccBSS n st w (matP (idsM l 4).length (conC l k) (idsM l 4).length) ∧ n ≤ st.n)
    (Ok.loop (σ := AV × St) (Lp := fun i s => L.loop [0, 1, 5, 6, 23, 24, 25] [4, 5] b_spec_ConsistencyGraph_1 [v, .int .i64 k, s.1, ids, ids, .int .i64 (idsM l 4).length, .int .i64 i] s.2) (I := fun i s => AccBSS n s.2 s.1 (matP (idsM l 4).length (conC l k) i) ∧ n ≤ s.2.n) (idsM l 4).length ?_ ?_ (idsM l 4).length 0 (.lsl (st0 n).m (st0 n).n 1 0 0, (((st0 n).new 1 []).setN n1).setN n2) (by omega) ⟨(AccBSS.lit (Nat.le_refl _)).frame (fun _ _ => rfl) (Nat.le_refl _) (show n + 1 ≤ n2 by omega), (show n ≤ n2 by omega)⟩) ?_
  · rintro ⟨w, st⟩ ⟨hA, hn⟩
    rw [loop_spec_ConsistencyGraph_1]
    simp only [bind_some', aBin_lss, cnd_dec, Int.lt_irrefl, if_false]
    exact ⟨_, rfl, w, st, rfl, hA, hn⟩
  · rintro i ⟨w, st⟩ hi ⟨hA, hn⟩ ih
    dsimp only at hA hn
    obtain ⟨p, q1, q2⟩ := IS.get (st := st) hids (List.getElem?_eq_getElem hi) .i64
    rw [loop_spec_ConsistencyGraph_1]
    simp only [bind_some', aBin_lss, cnd_dec, q1, q2, SlOf.len hids]
    rw [if_pos (by omega), lit0_b]
    refine Ok.bind (P := fun r => ∃ x st1, r = (.exit 2, [v, .int .i64 k, .undef, w, ids, x, ids, .int .i64 (idsM l 4).length, .int .i64 i], st1) ∧ RowI n st w x st1 (matR (conC l k i) (idsM l 4).length))
      (Ok.loop (σ := AV × St) (Lp := fun j s => L.loop [0, 1, 5, 6, 7, 8, 9, 23, 24, 25, 31, 32, 33] [0, 1, 4, 5, 6, 9, 23, 24, 25] b_spec_ConsistencyGraph_2 [v, .int .i64 k, w, ids, .int .i64 i, .int .i64 (idsM l 4)[i], s.1, ids, .int .i64 (idsM l 4).length, .int .i64 i, ids, .int .i64 (idsM l 4).length, .int .i64 j] s.2) (I := fun j s => RowI n st w s.1 s.2 (matR (conC l k i) j)) (idsM l 4).length ?_ ?_ (idsM l 4).length 0 (.lsl st.m st.n 1 0 0, st.new 1 []) (by omega) RowI.start) ?_
    · rintro ⟨x, st1⟩ hR
      rw [loop_spec_ConsistencyGraph_2]
      simp only [bind_some', aBin_lss, cnd_dec, Int.lt_irrefl, if_false]
      exact ⟨_, rfl, x, st1, rfl, hR⟩
    · rintro j ⟨x, st1⟩ hj hR ih2
      dsimp only at hR
      obtain ⟨p', q1', q2'⟩ := IS.get (st := st1) hids (List.getElem?_eq_getElem hj) .i64
      have hml := matR_length (conC l k i) j
      rw [loop_spec_ConsistencyGraph_2]
      simp only [bind_some', aBin_lss, aBin_leq, aBin_gtr, aBin_geq, aBin_eql, aBin_neq, aBin_add, aBin_sub, aBin_mul, aBin_seql, aBin_sneq, aBinb_eql, aBinb_neq, aUn_not, aUn_neg, aSlen_str, extr0, extr1, extr2, q1', q2']
      refine Ok.cnd (fun _ => ?_) fun hf => absurd hf (by omega)
      rw [wrap_i (x := (j : Int) + 1) (by omega)]
      refine Ok.cnd (fun hij => ?_) fun hij => ?_
      · refine Ok.gives (AreConsistent_spec h s (idsM l 4)[i] (idsM l 4)[j] k) (plain4 h.plain (plain_int _ _) (plain_int _ _) (plain_int _ _)) fun m hm => ?_
        refine (hR.setN hm).push (by omega) fun w' st' hR' => ih2 (w', st') ?_
        have hcell : conC l k i j = consM l (idsM l 4)[i] (idsM l 4)[j] k := by
          have : ¬ i = j := by omega
          simp [conC, this, List.getElem?_eq_getElem hi, List.getElem?_eq_getElem hj]
        rw [matR_succ, hcell]
        exact hR'
      · refine hR.push (by omega) fun w' st' hR' => ih2 (w', st') ?_
        have hcell : conC l k i j = false := by
          have : i = j := by omega
          simp [conC, this]
        rw [matR_succ, hcell]
        exact hR'
    · rintro _ ⟨x, st1, rfl, hR⟩
      have hpl := matP_length (idsM l 4).length (conC l k) i
      rw [k_spec_ConsistencyGraph_2_2]
      refine hR.close hA hn (by omega) fun v' st' k1 k2 => ?_
      simp only [aBin_add, bind_some']
      rw [wrap_i (by omega)]
      exact ih (v', st') ⟨by rw [matP_succ]; exact k1, Nat.le_trans hn k2⟩
  · rintro _ ⟨w, st, rfl, hA, hn⟩
    obtain ⟨T, t1, t2, t3⟩ := hA.fin
    rw [k_spec_ConsistencyGraph_1_0, t1]
    have h12' : (idsM l 4).length ≤ 12 := by omega
    exact ⟨_, rfl, hn, by simp only [consGM, hg, h12', and_self, if_true]; exact t2, t3⟩

theorem FactorIds_impl {v : AV} {l : List Fac} (h : FS v l) (hl : l.length ≤ 1048576) (kind : Int) (n : Nat) : Ok (L.call i_impl_FactorIds [v, .int .i64 kind] n) fun p => n ≤ p.2 ∧ IS p.1 (idsM l kind) ∧ New 1 n p.2 p.1 := by
  rw [call_impl_FactorIds, lit0_i, SlOf.len h, bind_some']
  refine Ok.bind (P := fun r => ∃ w st, r = (.exit 0, [.undef, w], st) ∧ AccI n st w (idsM l kind) ∧ n ≤ st.n)
    (Ok.loop (σ := AV × St) (Lp := fun i s => L.loop [1, 5, 9, 10, 11] [4, 5] b_impl_FactorIds_1 [.int .i64 kind, s.1, v, .int .i64 l.length, .int .i64 i] s.2) (I := fun i s => AccI n s.2 s.1 (idsM (l.take i) kind) ∧ n ≤ s.2.n) l.length ?_ ?_ l.length 0 (.lsl (st0 n).m (st0 n).n 1 0 0, (st0 n).new 1 []) (by omega) ⟨AccI.lit (Nat.le_refl _), Nat.le_succ _⟩) ?_
  · rintro ⟨w, st⟩ ⟨hA, hn⟩
    rw [loop_impl_FactorIds_1]
    simp only [bind_some', aBin_lss, cnd_dec, Int.lt_irrefl, if_false]
    rw [List.take_length] at hA
    exact ⟨_, rfl, w, st, rfl, hA, hn⟩
  · rintro i ⟨w, st⟩ hi ⟨hA, hn⟩ ih
    dsimp only at hA hn
    obtain ⟨p, q1, _, q2⟩ := FS.get (st := st) h (List.getElem?_eq_getElem hi) .i64
    have hil := ids_length (l.take i) kind
    rw [List.length_take] at hil
    have hstep := ids_take l kind i l[i] (List.getElem?_eq_getElem hi)
    rw [loop_impl_FactorIds_1]
    simp only [bind_some', aBin_lss, aBin_leq, aBin_gtr, aBin_geq, aBin_eql, aBin_neq, aBin_add, aBin_sub, aBin_mul, aBin_seql, aBin_sneq, aBinb_eql, aBinb_neq, aUn_not, aUn_neg, aSlen_str, extr0, extr1, extr2, q1, q2]
    refine Ok.cnd (fun _ => ?_) fun hf => absurd hf (by omega)
    rw [wrap_i (x := (i : Int) + 1) (by omega)]
    simp only [facV, retV_one, retV_two, retV_three, mkNew_agg, mkNew_zc, ld_top, ld_old, ld_setN, sto_top, sto_old, sto_setN, faddr_ptr, faddr_eptr, ld_eptr, new_m', new_n', setN_m', setN_n', st0_m', st0_n', put_m', put_n', AV.cells, AV.one, AV.stor, ldCells, setElem, splice, List.all_cons, List.all_nil, List.length_cons, List.length_nil, List.drop, List.take, List.head?_cons, List.getElem?_cons_zero, List.getElem?_cons_succ, List.set_cons_zero, List.nil_append, List.cons_append, List.append_nil, List.drop_zero, List.drop_succ_cons, List.drop_nil, List.take_zero, List.take_succ_cons, List.take_nil, cond_true, cond_false, Bool.and_self, Bool.and_true, and_self, and_true, true_and, if_true, bind_some', Nat.add_zero, Nat.zero_add, Nat.reduceAdd, Nat.reduceLeDiff, ne_eq, not_false_eq_true, Nat.add_eq_zero_iff, Nat.reduceEqDiff, one_ne_zero', zero_ne_one', nne1, nne2, nne3, Nat.add_right_cancel_iff, Nat.add_left_cancel_iff, Nat.le_refl, reduceCtorEq, bind_some', aBin_lss, aBin_leq, aBin_gtr, aBin_geq, aBin_eql, aBin_neq, aBin_add, aBin_sub, aBin_mul, aBin_seql, aBin_sneq, aBinb_eql, aBinb_neq, aUn_not, aUn_neg, aSlen_str, extr0, extr1, extr2]
    have hA' : AccI n (st.new 8 [facV l[i]]) w (idsM (l.take i) kind) := hA.frame (fun q hq => new_H_ne (Nat.ne_of_lt hq)) (Nat.le_succ _) (Nat.le_succ _)
    refine Ok.cnd (fun hk => ?_) fun hk => ?_
    · refine Ok.pushI hA' (Nat.le_trans hn (Nat.le_succ _)) (by omega) fun w2 st2 k1 k2 k3 k4 k5 => ih (w2, st2) ⟨by rw [hstep, if_pos hk]; exact k1, ?_⟩
      have : st.n + 1 ≤ st2.n := k3
      exact (show n ≤ st2.n by omega)
    · exact ih (w, _) ⟨by rw [hstep, if_neg hk, List.append_nil]; exact hA', Nat.le_trans hn (Nat.le_succ _)⟩
  · rintro _ ⟨w, st, rfl, hA, hn⟩
    obtain ⟨T, t1, _, t2, t3⟩ := hA.fin
    rw [k_impl_FactorIds_1_0, t1]
    exact ⟨_, rfl, hn, t2, t3⟩

theorem findFactor_ok {v : AV} {l : List Fac} (h : FS v l) (hl : l.length ≤ 4294967296) (id : Int) : Gives i_impl_findFactor [v, .int .i64 id] (.int .i64 (fidx (fun x => decide (x.id = id)) l)) := by
  intro n
  rw [call_impl_findFactor, SlOf.len h, bind_some']
  refine Ok.bind (P := fun r => ∃ st', n ≤ st'.n ∧ ((r = (.exit 0, [.undef], st') ∧ fidx (fun x => decide (x.id = id)) l = -1) ∨ r = (.ret, [.int .i64 (fidx (fun x => decide (x.id = id)) l)], st')))
    (find_loop (p := fun x => decide (x.id = id)) (l := l) (n0 := n) (fun i st => L.loop [1, 7, 8, 9] [4] b_impl_findFactor_1 [.int .i64 id, v, .int .i64 l.length, .int .i64 i] st) l.length rfl ?_ ?_ (st0 n) (Nat.le_refl _)) ?_
  · intro st hn hf
    rw [loop_impl_findFactor_1]
    simp only [bind_some', aBin_lss, cnd_dec, Int.lt_irrefl, if_false]
    exact ⟨_, rfl, st, hn, .inl ⟨rfl, hf⟩⟩
  · intro i x st hx hn _ hno hyes
    have hi := (List.getElem?_eq_some_iff.1 hx).1
    obtain ⟨p, q1, _, q2⟩ := FS.get (st := st) h hx .i64
    rw [loop_impl_findFactor_1]
    simp only [bind_some', aBin_lss, aBin_leq, aBin_gtr, aBin_geq, aBin_eql, aBin_neq, aBin_add, aBin_sub, aBin_mul, aBin_seql, aBin_sneq, aBinb_eql, aBinb_neq, aUn_not, aUn_neg, aSlen_str, extr0, extr1, extr2, q1, q2]
    refine Ok.cnd (fun _ => ?_) fun hf => absurd hf (by omega)
    simp only [facV, retV_one, retV_two, retV_three, mkNew_agg, mkNew_zc, ld_top, ld_old, ld_setN, sto_top, sto_old, sto_setN, faddr_ptr, faddr_eptr, ld_eptr, new_m', new_n', setN_m', setN_n', st0_m', st0_n', put_m', put_n', AV.cells, AV.one, AV.stor, ldCells, setElem, splice, List.all_cons, List.all_nil, List.length_cons, List.length_nil, List.drop, List.take, List.head?_cons, List.getElem?_cons_zero, List.getElem?_cons_succ, List.set_cons_zero, List.nil_append, List.cons_append, List.append_nil, List.drop_zero, List.drop_succ_cons, List.drop_nil, List.take_zero, List.take_succ_cons, List.take_nil, cond_true, cond_false, Bool.and_self, Bool.and_true, and_self, and_true, true_and, if_true, bind_some', Nat.add_zero, Nat.zero_add, Nat.reduceAdd, Nat.reduceLeDiff, ne_eq, not_false_eq_true, Nat.add_eq_zero_iff, Nat.reduceEqDiff, one_ne_zero', zero_ne_one', nne1, nne2, nne3, Nat.add_right_cancel_iff, Nat.add_left_cancel_iff, Nat.le_refl, reduceCtorEq, bind_some', aBin_lss, aBin_leq, aBin_gtr, aBin_geq, aBin_eql, aBin_neq, aBin_add, aBin_sub, aBin_mul, aBin_seql, aBin_sneq, aBinb_eql, aBinb_neq, aUn_not, aUn_neg, aSlen_str, extr0, extr1, extr2]
    refine Ok.cnd (fun hp => ?_) fun hp => ?_
    · exact ⟨_, rfl, _, Nat.le_trans hn (Nat.le_succ _), .inr (by rw [hyes (decide_eq_true hp)])⟩
    · rw [wrap64 (by omega) (by omega)]; exact hno (decide_eq_false hp) _ (Nat.le_trans hn (Nat.le_succ _))
  · rintro _ ⟨st', hn, ⟨rfl, hf⟩ | rfl⟩
    · rw [k_impl_findFactor_1_0]; exact Ok.reti hn hf.symm
    · rw [k_impl_findFactor_1_ret]; exact Ok.reti hn rfl

theorem inRange_ok (x : Int) : Gives i_impl_inRange [.int .i64 x] (.bool (decide (-1000000 ≤ x ∧ x ≤ 1000000))) := by
  intro n
  rw [call_impl_inRange]
  simp only [bind_some', aBin_lss, aBin_leq, aBin_gtr, aBin_geq, aBin_eql, aBin_neq, aBin_add, aBin_sub, aBin_mul, aBin_seql, aBin_sneq, aBinb_eql, aBinb_neq, aUn_not, aUn_neg, aSlen_str, extr0, extr1, extr2]
  refine Ok.cnd (fun h => ?_) fun h => ?_
  · exact Ok.retb (Nat.le_refl _) (by simp [h])
  · exact Ok.retb (Nat.le_refl _) (by simp [h])
theorem IsValidPose_impl (p : Pos) : Gives i_impl_IsValidPose [poseV p] (.bool (poseOk p)) := by
  intro n
  rw [call_impl_IsValidPose]
  simp only [poseV, retV_one, retV_two, retV_three, mkNew_agg, mkNew_zc, ld_top, ld_old, ld_setN, sto_top, sto_old, sto_setN, faddr_ptr, faddr_eptr, ld_eptr, new_m', new_n', setN_m', setN_n', st0_m', st0_n', put_m', put_n', AV.cells, AV.one, AV.stor, ldCells, setElem, splice, List.all_cons, List.all_nil, List.length_cons, List.length_nil, List.drop, List.take, List.head?_cons, List.getElem?_cons_zero, List.getElem?_cons_succ, List.set_cons_zero, List.nil_append, List.cons_append, List.append_nil, List.drop_zero, List.drop_succ_cons, List.drop_nil, List.take_zero, List.take_succ_cons, List.take_nil, cond_true, cond_false, Bool.and_self, Bool.and_true, and_self, and_true, true_and, if_true, bind_some', Nat.add_zero, Nat.zero_add, Nat.reduceAdd, Nat.reduceLeDiff, ne_eq, not_false_eq_true, Nat.add_eq_zero_iff, Nat.reduceEqDiff, one_ne_zero', zero_ne_one', nne1, nne2, nne3, Nat.add_right_cancel_iff, Nat.add_left_cancel_iff, Nat.le_refl, reduceCtorEq, bind_some', aBin_lss, aBin_leq, aBin_gtr, aBin_geq, aBin_eql, aBin_neq, aBin_add, aBin_sub, aBin_mul, aBin_seql, aBin_sneq, aBinb_eql, aBinb_neq, aUn_not, aUn_neg, aSlen_str, extr0, extr1, extr2]
  repeat' first
    | (refine Ok.cnd (fun h => ?_) fun h => ?_) | (refine Ok.cndn (fun h => ?_) fun h => ?_) | (refine Ok.cndb (fun h => ?_) fun h => ?_) | (refine Ok.cndnb (fun h => ?_) fun h => ?_)
    | (refine Ok.gives (inRange_ok _) (pB rfl) fun m hm => ?_; (simp only [retV_one, retV_two, retV_three, mkNew_agg, mkNew_zc, ld_top, ld_old, ld_setN, sto_top, sto_old, sto_setN, faddr_ptr, faddr_eptr, ld_eptr, new_m', new_n', setN_m', setN_n', st0_m', st0_n', put_m', put_n', AV.cells, AV.one, AV.stor, ldCells, setElem, splice, List.all_cons, List.all_nil, List.length_cons, List.length_nil, List.drop, List.take, List.head?_cons, List.getElem?_cons_zero, List.getElem?_cons_succ, List.set_cons_zero, List.nil_append, List.cons_append, List.append_nil, List.drop_zero, List.drop_succ_cons, List.drop_nil, List.take_zero, List.take_succ_cons, List.take_nil, cond_true, cond_false, Bool.and_self, Bool.and_true, and_self, and_true, true_and, if_true, bind_some', Nat.add_zero, Nat.zero_add, Nat.reduceAdd, Nat.reduceLeDiff, ne_eq, not_false_eq_true, Nat.add_eq_zero_iff, Nat.reduceEqDiff, one_ne_zero', zero_ne_one', nne1, nne2, nne3, Nat.add_right_cancel_iff, Nat.add_left_cancel_iff, Nat.le_refl, reduceCtorEq, bind_some', aBin_lss, aBin_leq, aBin_gtr, aBin_geq, aBin_eql, aBin_neq, aBin_add, aBin_sub, aBin_mul, aBin_seql, aBin_sneq, aBinb_eql, aBinb_neq, aUn_not, aUn_neg, aSlen_str, extr0, extr1, extr2]))
  all_goals refine Ok.retb (by (try simp only [new_n', setN_n', st0_n', put_n'] at *); first | omega | exact Nat.le_succ _ | exact Nat.le_refl _) ?_
  all_goals grind [poseOk]


theorem RotateXY_impl_loop (t : Int) (st : St) (ht : 0 ≤ t ∧ t ≤ 3) : ∀ (k : Nat) (i : Int) (x y : Int), i + k = t → 0 ≤ i → -1000000 ≤ x ∧ x ≤ 1000000 ∧ -1000000 ≤ y ∧ y ≤ 1000000 →
    L.loop [0, 1, 2, 8] [0, 1, 6, 7] b_impl_RotateXY_1 [.int .i64 x, .int .i64 y, .int .i64 t, .int .i64 i] st = some (.exit 0, [.int .i64 (rotN k (x, y)).1, .int .i64 (rotN k (x, y)).2, .undef, .undef], st)
  | 0, i, x, y, h, h0, hb => by
    rw [loop_impl_RotateXY_1]
    simp only [bind_some', aBin_lss, cnd_dec]
    rw [if_neg (by omega)]; rfl
  | k + 1, i, x, y, h, h0, hb => by
    rw [loop_impl_RotateXY_1]
    simp only [bind_some', aBin_lss, cnd_dec, aUn_neg, aBin_add]
    rw [if_pos (by omega), wrap64 (by omega) (by omega), wrap64 (by omega) (by omega), RotateXY_impl_loop t st ht k (i + 1) (0 - y) x (by omega) (by omega) (by omega)]
    simp only [rotN, Int.zero_sub]

theorem RotateXY_impl (x y t : Int) : Gives i_impl_RotateXY [.int .i64 x, .int .i64 y, .int .i64 t] (.tup [.int .i64 (rotM x y t).1, .int .i64 (rotM x y t).2]) := by
  intro n
  rw [call_impl_RotateXY]
  simp only [bind_some', aBin_lss, aBin_leq, aBin_gtr, aBin_geq, aBin_eql, aBin_neq, aBin_add, aBin_sub, aBin_mul, aBin_seql, aBin_sneq, aBinb_eql, aBinb_neq, aUn_not, aUn_neg, aSlen_str, extr0, extr1, extr2]
  repeat' first
    | (refine Ok.cnd (fun h => ?_) fun h => ?_) | (refine Ok.cndn (fun h => ?_) fun h => ?_) | (refine Ok.cndb (fun h => ?_) fun h => ?_) | (refine Ok.cndnb (fun h => ?_) fun h => ?_)
    | (refine Ok.gives (inRange_ok _) (pB rfl) fun m hm => ?_; (simp only [retV_one, retV_two, retV_three, mkNew_agg, mkNew_zc, ld_top, ld_old, ld_setN, sto_top, sto_old, sto_setN, faddr_ptr, faddr_eptr, ld_eptr, new_m', new_n', setN_m', setN_n', st0_m', st0_n', put_m', put_n', AV.cells, AV.one, AV.stor, ldCells, setElem, splice, List.all_cons, List.all_nil, List.length_cons, List.length_nil, List.drop, List.take, List.head?_cons, List.getElem?_cons_zero, List.getElem?_cons_succ, List.set_cons_zero, List.nil_append, List.cons_append, List.append_nil, List.drop_zero, List.drop_succ_cons, List.drop_nil, List.take_zero, List.take_succ_cons, List.take_nil, cond_true, cond_false, Bool.and_self, Bool.and_true, and_self, and_true, true_and, if_true, bind_some', Nat.add_zero, Nat.zero_add, Nat.reduceAdd, Nat.reduceLeDiff, ne_eq, not_false_eq_true, Nat.add_eq_zero_iff, Nat.reduceEqDiff, one_ne_zero', zero_ne_one', nne1, nne2, nne3, Nat.add_right_cancel_iff, Nat.add_left_cancel_iff, Nat.le_refl, reduceCtorEq, bind_some', aBin_lss, aBin_leq, aBin_gtr, aBin_geq, aBin_eql, aBin_neq, aBin_add, aBin_sub, aBin_mul, aBin_seql, aBin_sneq, aBinb_eql, aBinb_neq, aUn_not, aUn_neg, aSlen_str, extr0, extr1, extr2]))
  case' refine_2.refine_2.refine_2.refine_2 =>
    rw [RotateXY_impl_loop t _ (by omega) t.toNat 0 x y (by omega) (by omega) (by omega), bind_some', k_impl_RotateXY_1_0]
  all_goals refine Ok.ret (by first | rfl | (simp only [retV_one, retV_two, retV_three]; rfl)) (by (try simp only [new_n', setN_n', st0_n', put_n'] at *); first | omega | exact Nat.le_succ _ | exact Nat.le_refl _) ?_
  all_goals grind [rotM, poseOk]

theorem compose_impl (p q : Pos) : Gives i_impl_composeOk [poseV p, poseV q] (.tup [poseV (compM p q).1, .bool (compM p q).2]) := by
  intro n
  rw [call_impl_composeOk]
  simp only [poseV, retV_one, retV_two, retV_three, mkNew_agg, mkNew_zc, ld_top, ld_old, ld_setN, sto_top, sto_old, sto_setN, faddr_ptr, faddr_eptr, ld_eptr, new_m', new_n', setN_m', setN_n', st0_m', st0_n', put_m', put_n', AV.cells, AV.one, AV.stor, ldCells, setElem, splice, List.all_cons, List.all_nil, List.length_cons, List.length_nil, List.drop, List.take, List.head?_cons, List.getElem?_cons_zero, List.getElem?_cons_succ, List.set_cons_zero, List.nil_append, List.cons_append, List.append_nil, List.drop_zero, List.drop_succ_cons, List.drop_nil, List.take_zero, List.take_succ_cons, List.take_nil, cond_true, cond_false, Bool.and_self, Bool.and_true, and_self, and_true, true_and, if_true, bind_some', Nat.add_zero, Nat.zero_add, Nat.reduceAdd, Nat.reduceLeDiff, ne_eq, not_false_eq_true, Nat.add_eq_zero_iff, Nat.reduceEqDiff, one_ne_zero', zero_ne_one', nne1, nne2, nne3, Nat.add_right_cancel_iff, Nat.add_left_cancel_iff, Nat.le_refl, reduceCtorEq, bind_some', aBin_lss, aBin_leq, aBin_gtr, aBin_geq, aBin_eql, aBin_neq, aBin_add, aBin_sub, aBin_mul, aBin_seql, aBin_sneq, aBinb_eql, aBinb_neq, aUn_not, aUn_neg, aSlen_str, extr0, extr1, extr2]
  refine Ok.gives (IsValidPose_impl p) (pB rfl) fun m1 h1 => ?_
  (simp only [retV_one, retV_two, retV_three, mkNew_agg, mkNew_zc, ld_top, ld_old, ld_setN, sto_top, sto_old, sto_setN, faddr_ptr, faddr_eptr, ld_eptr, new_m', new_n', setN_m', setN_n', st0_m', st0_n', put_m', put_n', AV.cells, AV.one, AV.stor, ldCells, setElem, splice, List.all_cons, List.all_nil, List.length_cons, List.length_nil, List.drop, List.take, List.head?_cons, List.getElem?_cons_zero, List.getElem?_cons_succ, List.set_cons_zero, List.nil_append, List.cons_append, List.append_nil, List.drop_zero, List.drop_succ_cons, List.drop_nil, List.take_zero, List.take_succ_cons, List.take_nil, cond_true, cond_false, Bool.and_self, Bool.and_true, and_self, and_true, true_and, if_true, bind_some', Nat.add_zero, Nat.zero_add, Nat.reduceAdd, Nat.reduceLeDiff, ne_eq, not_false_eq_true, Nat.add_eq_zero_iff, Nat.reduceEqDiff, one_ne_zero', zero_ne_one', nne1, nne2, nne3, Nat.add_right_cancel_iff, Nat.add_left_cancel_iff, Nat.le_refl, reduceCtorEq, bind_some', aBin_lss, aBin_leq, aBin_gtr, aBin_geq, aBin_eql, aBin_neq, aBin_add, aBin_sub, aBin_mul, aBin_seql, aBin_sneq, aBinb_eql, aBinb_neq, aUn_not, aUn_neg, aSlen_str, extr0, extr1, extr2])
  refine Ok.cndnb (fun hp => ?_) fun hp => ?_
  · refine Ok.ret (by first | rfl | (simp only [retV_one, retV_two, retV_three]; rfl)) (by (try simp only [new_n', setN_n', st0_n', put_n'] at *); first | omega | exact Nat.le_succ _ | exact Nat.le_refl _) ?_
    simp [compM, hp, pose0]
  refine Ok.gives (IsValidPose_impl q) (pB rfl) fun m2 h2 => ?_
  (simp only [retV_one, retV_two, retV_three, mkNew_agg, mkNew_zc, ld_top, ld_old, ld_setN, sto_top, sto_old, sto_setN, faddr_ptr, faddr_eptr, ld_eptr, new_m', new_n', setN_m', setN_n', st0_m', st0_n', put_m', put_n', AV.cells, AV.one, AV.stor, ldCells, setElem, splice, List.all_cons, List.all_nil, List.length_cons, List.length_nil, List.drop, List.take, List.head?_cons, List.getElem?_cons_zero, List.getElem?_cons_succ, List.set_cons_zero, List.nil_append, List.cons_append, List.append_nil, List.drop_zero, List.drop_succ_cons, List.drop_nil, List.take_zero, List.take_succ_cons, List.take_nil, cond_true, cond_false, Bool.and_self, Bool.and_true, and_self, and_true, true_and, if_true, bind_some', Nat.add_zero, Nat.zero_add, Nat.reduceAdd, Nat.reduceLeDiff, ne_eq, not_false_eq_true, Nat.add_eq_zero_iff, Nat.reduceEqDiff, one_ne_zero', zero_ne_one', nne1, nne2, nne3, Nat.add_right_cancel_iff, Nat.add_left_cancel_iff, Nat.le_refl, reduceCtorEq, bind_some', aBin_lss, aBin_leq, aBin_gtr, aBin_geq, aBin_eql, aBin_neq, aBin_add, aBin_sub, aBin_mul, aBin_seql, aBin_sneq, aBinb_eql, aBinb_neq, aUn_not, aUn_neg, aSlen_str, extr0, extr1, extr2])
  refine Ok.cndnb (fun hq => ?_) fun hq => ?_
  · refine Ok.ret (by first | rfl | (simp only [retV_one, retV_two, retV_three]; rfl)) (by (try simp only [new_n', setN_n', st0_n', put_n'] at *); first | omega | exact Nat.le_succ _ | exact Nat.le_refl _) ?_
    simp [compM, hp, hq, pose0]
  refine Ok.gives (RotateXY_impl q.x q.y p.t) (pB rfl) fun m3 h3 => ?_
  have hb := rotM_bound q.x q.y p.t
  have hp' := hp; have hq' := hq
  simp only [poseOk, decide_eq_true_iff] at hp' hq'
  simp only [mkBuild, retV_one, retV_two, retV_three, mkNew_agg, mkNew_zc, ld_top, ld_old, ld_setN, sto_top, sto_old, sto_setN, faddr_ptr, faddr_eptr, ld_eptr, new_m', new_n', setN_m', setN_n', st0_m', st0_n', put_m', put_n', AV.cells, AV.one, AV.stor, ldCells, setElem, splice, List.all_cons, List.all_nil, List.length_cons, List.length_nil, List.drop, List.take, List.head?_cons, List.getElem?_cons_zero, List.getElem?_cons_succ, List.set_cons_zero, List.nil_append, List.cons_append, List.append_nil, List.drop_zero, List.drop_succ_cons, List.drop_nil, List.take_zero, List.take_succ_cons, List.take_nil, cond_true, cond_false, Bool.and_self, Bool.and_true, and_self, and_true, true_and, if_true, bind_some', Nat.add_zero, Nat.zero_add, Nat.reduceAdd, Nat.reduceLeDiff, ne_eq, not_false_eq_true, Nat.add_eq_zero_iff, Nat.reduceEqDiff, one_ne_zero', zero_ne_one', nne1, nne2, nne3, Nat.add_right_cancel_iff, Nat.add_left_cancel_iff, Nat.le_refl, reduceCtorEq, bind_some', aBin_lss, aBin_leq, aBin_gtr, aBin_geq, aBin_eql, aBin_neq, aBin_add, aBin_sub, aBin_mul, aBin_seql, aBin_sneq, aBinb_eql, aBinb_neq, aUn_not, aUn_neg, aSlen_str, extr0, extr1, extr2, aBin_rem _ _ _ (show (4 : Int) ≠ 0 by omega)]
  rw [wrap_i (x := p.t + q.t) (by omega), wrap_i (by omega), wrap_i (by omega)]
  refine Ok.gives (IsValidPose_impl ⟨(p.t + q.t).tmod 4, p.x + (rotM q.x q.y p.t).1, p.y + (rotM q.x q.y p.t).2⟩) (pB rfl) fun m4 h4 => ?_
  (simp only [retV_one, retV_two, retV_three, mkNew_agg, mkNew_zc, ld_top, ld_old, ld_setN, sto_top, sto_old, sto_setN, faddr_ptr, faddr_eptr, ld_eptr, new_m', new_n', setN_m', setN_n', st0_m', st0_n', put_m', put_n', AV.cells, AV.one, AV.stor, ldCells, setElem, splice, List.all_cons, List.all_nil, List.length_cons, List.length_nil, List.drop, List.take, List.head?_cons, List.getElem?_cons_zero, List.getElem?_cons_succ, List.set_cons_zero, List.nil_append, List.cons_append, List.append_nil, List.drop_zero, List.drop_succ_cons, List.drop_nil, List.take_zero, List.take_succ_cons, List.take_nil, cond_true, cond_false, Bool.and_self, Bool.and_true, and_self, and_true, true_and, if_true, bind_some', Nat.add_zero, Nat.zero_add, Nat.reduceAdd, Nat.reduceLeDiff, ne_eq, not_false_eq_true, Nat.add_eq_zero_iff, Nat.reduceEqDiff, one_ne_zero', zero_ne_one', nne1, nne2, nne3, Nat.add_right_cancel_iff, Nat.add_left_cancel_iff, Nat.le_refl, reduceCtorEq, bind_some', aBin_lss, aBin_leq, aBin_gtr, aBin_geq, aBin_eql, aBin_neq, aBin_add, aBin_sub, aBin_mul, aBin_seql, aBin_sneq, aBinb_eql, aBinb_neq, aUn_not, aUn_neg, aSlen_str, extr0, extr1, extr2])
  refine Ok.cndnb (fun hr => ?_) fun hr => ?_
  · refine Ok.ret (by first | rfl | (simp only [retV_one, retV_two, retV_three]; rfl)) (by (try simp only [new_n', setN_n', st0_n', put_n'] at *); first | omega | exact Nat.le_succ _ | exact Nat.le_refl _) ?_
    simp [compM, hp, hq, hr, pose0]
  · refine Ok.ret (by first | rfl | (simp only [retV_one, retV_two, retV_three]; rfl)) (by (try simp only [new_n', setN_n', st0_n', put_n'] at *); first | omega | exact Nat.le_succ _ | exact Nat.le_refl _) ?_
    simp [compM, hp, hq, hr]

theorem Inverse_impl (p : Pos) : Gives i_impl_Inverse [poseV p] (poseV (invM p)) := by
  intro n
  rw [call_impl_Inverse]
  simp only [poseV, retV_one, retV_two, retV_three, mkNew_agg, mkNew_zc, ld_top, ld_old, ld_setN, sto_top, sto_old, sto_setN, faddr_ptr, faddr_eptr, ld_eptr, new_m', new_n', setN_m', setN_n', st0_m', st0_n', put_m', put_n', AV.cells, AV.one, AV.stor, ldCells, setElem, splice, List.all_cons, List.all_nil, List.length_cons, List.length_nil, List.drop, List.take, List.head?_cons, List.getElem?_cons_zero, List.getElem?_cons_succ, List.set_cons_zero, List.nil_append, List.cons_append, List.append_nil, List.drop_zero, List.drop_succ_cons, List.drop_nil, List.take_zero, List.take_succ_cons, List.take_nil, cond_true, cond_false, Bool.and_self, Bool.and_true, and_self, and_true, true_and, if_true, bind_some', Nat.add_zero, Nat.zero_add, Nat.reduceAdd, Nat.reduceLeDiff, ne_eq, not_false_eq_true, Nat.add_eq_zero_iff, Nat.reduceEqDiff, one_ne_zero', zero_ne_one', nne1, nne2, nne3, Nat.add_right_cancel_iff, Nat.add_left_cancel_iff, Nat.le_refl, reduceCtorEq, bind_some', aBin_lss, aBin_leq, aBin_gtr, aBin_geq, aBin_eql, aBin_neq, aBin_add, aBin_sub, aBin_mul, aBin_seql, aBin_sneq, aBinb_eql, aBinb_neq, aUn_not, aUn_neg, aSlen_str, extr0, extr1, extr2]
  refine Ok.gives (IsValidPose_impl p) (pB rfl) fun m1 h1 => ?_
  (simp only [retV_one, retV_two, retV_three, mkNew_agg, mkNew_zc, ld_top, ld_old, ld_setN, sto_top, sto_old, sto_setN, faddr_ptr, faddr_eptr, ld_eptr, new_m', new_n', setN_m', setN_n', st0_m', st0_n', put_m', put_n', AV.cells, AV.one, AV.stor, ldCells, setElem, splice, List.all_cons, List.all_nil, List.length_cons, List.length_nil, List.drop, List.take, List.head?_cons, List.getElem?_cons_zero, List.getElem?_cons_succ, List.set_cons_zero, List.nil_append, List.cons_append, List.append_nil, List.drop_zero, List.drop_succ_cons, List.drop_nil, List.take_zero, List.take_succ_cons, List.take_nil, cond_true, cond_false, Bool.and_self, Bool.and_true, and_self, and_true, true_and, if_true, bind_some', Nat.add_zero, Nat.zero_add, Nat.reduceAdd, Nat.reduceLeDiff, ne_eq, not_false_eq_true, Nat.add_eq_zero_iff, Nat.reduceEqDiff, one_ne_zero', zero_ne_one', nne1, nne2, nne3, Nat.add_right_cancel_iff, Nat.add_left_cancel_iff, Nat.le_refl, reduceCtorEq, bind_some', aBin_lss, aBin_leq, aBin_gtr, aBin_geq, aBin_eql, aBin_neq, aBin_add, aBin_sub, aBin_mul, aBin_seql, aBin_sneq, aBinb_eql, aBinb_neq, aUn_not, aUn_neg, aSlen_str, extr0, extr1, extr2])
  refine Ok.cndnb (fun hp => ?_) fun hp => ?_
  · refine Ok.ret (by first | rfl | (simp only [retV_one, retV_two, retV_three]; rfl)) (by (try simp only [new_n', setN_n', st0_n', put_n'] at *); first | omega | exact Nat.le_succ _ | exact Nat.le_refl _) ?_
    simp [invM, hp, pose0, retV_one]
  have hp' := hp
  simp only [poseOk, decide_eq_true_iff] at hp'
  simp only [aBin_rem _ _ _ (show (4 : Int) ≠ 0 by omega), bind_some']
  rw [wrap_i (x := 4 - p.t) (by omega), wrap_i (by omega), wrap_i (by omega)]
  simp only [Int.zero_sub]
  refine Ok.gives (RotateXY_impl (-p.x) (-p.y) ((4 - p.t).tmod 4)) (pB rfl) fun m3 h3 => ?_
  simp only [mkBuild, retV_one, retV_two, retV_three, mkNew_agg, mkNew_zc, ld_top, ld_old, ld_setN, sto_top, sto_old, sto_setN, faddr_ptr, faddr_eptr, ld_eptr, new_m', new_n', setN_m', setN_n', st0_m', st0_n', put_m', put_n', AV.cells, AV.one, AV.stor, ldCells, setElem, splice, List.all_cons, List.all_nil, List.length_cons, List.length_nil, List.drop, List.take, List.head?_cons, List.getElem?_cons_zero, List.getElem?_cons_succ, List.set_cons_zero, List.nil_append, List.cons_append, List.append_nil, List.drop_zero, List.drop_succ_cons, List.drop_nil, List.take_zero, List.take_succ_cons, List.take_nil, cond_true, cond_false, Bool.and_self, Bool.and_true, and_self, and_true, true_and, if_true, bind_some', Nat.add_zero, Nat.zero_add, Nat.reduceAdd, Nat.reduceLeDiff, ne_eq, not_false_eq_true, Nat.add_eq_zero_iff, Nat.reduceEqDiff, one_ne_zero', zero_ne_one', nne1, nne2, nne3, Nat.add_right_cancel_iff, Nat.add_left_cancel_iff, Nat.le_refl, reduceCtorEq, bind_some', aBin_lss, aBin_leq, aBin_gtr, aBin_geq, aBin_eql, aBin_neq, aBin_add, aBin_sub, aBin_mul, aBin_seql, aBin_sneq, aBinb_eql, aBinb_neq, aUn_not, aUn_neg, aSlen_str, extr0, extr1, extr2]
  refine Ok.ret (by first | rfl | (simp only [retV_one, retV_two, retV_three]; rfl)) (by (try simp only [new_n', setN_n', st0_n', put_n'] at *); first | omega | exact Nat.le_succ _ | exact Nat.le_refl _) ?_
  simp [invM, hp, retV_one]

theorem nameIndex_ok {v : AV} {l : List ByteArray} (h : SS v l) (hl : l.length ≤ 4294967296) (s : ByteArray) : Gives i_impl_nameIndex [v, .str s] (.int .i64 (fidx (fun x => decide (x = s)) l)) := by
  intro n
  rw [call_impl_nameIndex, SlOf.len h, bind_some']
  refine Ok.bind (P := fun r => ∃ st', n ≤ st'.n ∧ ((r = (.exit 0, [.undef], st') ∧ fidx (fun x => decide (x = s)) l = -1) ∨ r = (.ret, [.int .i64 (fidx (fun x => decide (x = s)) l)], st')))
    (find_loop (p := fun x => decide (x = s)) (l := l) (n0 := n) (fun i st => L.loop [1, 7, 8, 9] [4] b_impl_nameIndex_1 [.str s, v, .int .i64 l.length, .int .i64 i] st) l.length rfl ?_ ?_ (st0 n) (Nat.le_refl _)) ?_
  · intro st hn hf
    rw [loop_impl_nameIndex_1]
    simp only [bind_some', aBin_lss, cnd_dec, Int.lt_irrefl, if_false]
    exact ⟨_, rfl, st, hn, .inl ⟨rfl, hf⟩⟩
  · intro i x st hx hn _ hno hyes
    have hi := (List.getElem?_eq_some_iff.1 hx).1
    obtain ⟨p, q1, q2⟩ := SS.get (st := st) h hx .i64
    rw [loop_impl_nameIndex_1]
    simp only [bind_some', aBin_lss, aBin_leq, aBin_gtr, aBin_geq, aBin_eql, aBin_neq, aBin_add, aBin_sub, aBin_mul, aBin_seql, aBin_sneq, aBinb_eql, aBinb_neq, aUn_not, aUn_neg, aSlen_str, extr0, extr1, extr2, q1, q2]
    refine Ok.cnd (fun _ => ?_) fun hf => absurd hf (by omega)
    refine Ok.cnd (fun hp => ?_) fun hp => ?_
    · exact ⟨_, rfl, st, hn, .inr (by rw [hyes (decide_eq_true hp)])⟩
    · rw [wrap64 (by omega) (by omega)]; exact hno (decide_eq_false hp) st hn
  · rintro _ ⟨st', hn, ⟨rfl, hf⟩ | rfl⟩
    · rw [k_impl_nameIndex_1_0]; exact Ok.reti hn hf.symm
    · rw [k_impl_nameIndex_1_ret]; exact Ok.reti hn rfl

def stepQ (n0 m0 : Nat) (va vk : AV) (ps : List Pos) (kn : List Bool) (o : Option (Nat × Pos)) (p : AV × St) : Prop :=
  n0 ≤ p.2.n ∧ m0 ≤ p.2.m ∧ match o with
  | none => p.1 = .bool false ∧ DR p.2 va vk ps kn
  | some (i, q) => p.1 = .bool true ∧ DR p.2 va vk (ps.set i q) (kn.set i true)
def stepRR (n0 m0 : Nat) (va vk : AV) (ps : List Pos) (kn : List Bool) (o : Option (Nat × Pos)) (r : XT × List AV × St) : Prop :=
  ∃ v st', r = ((match o with | none => XT.exit 0 | some _ => XT.ret), [v], st') ∧ stepQ n0 m0 va vk ps kn o ((match o with | none => .bool false | some _ => v), st')
theorem poseStep_inl {vl vn va vk : AV} {l : List Fac} {st : St} {ps : List Pos} {kn : List Bool} (h : FS vl l) (hf : flistM l = true) (hn : SS vn (namesM l)) (hD : DR st va vk ps kn) (hp : ps.length = (namesM l).length) (hk : kn.length = (namesM l).length) :
    Ok (L.inl i_impl_poseStep [vl, vn, va, vk] st) (stepQ st.n st.m va vk ps kn (reckM (namesM l) l ps kn)) := by
  have h40 : l.length ≤ 40 := by simp only [flistM, Bool.and_eq_true, decide_eq_true_iff] at hf; exact hf.1.1
  have hnl := names_length l
  rw [inl_impl_poseStep, SlOf.len h, bind_some']
  refine Ok.bind (P := stepRR st.n st.m va vk ps kn (reckM (namesM l) l ps kn))
    (Ok.loop (σ := St) (Lp := fun i s => L.loop [1, 2, 3, 17, 18, 19] [8] b_impl_poseStep_1 [vn, va, vk, vl, .int .i64 l.length, .int .i64 i] s) (I := fun i s => st.n ≤ s.n ∧ st.m ≤ s.m ∧ DR s va vk ps kn ∧ ∀ j z, j < i → l[j]? = some z → stepAt (namesM l) ps kn z = none) l.length ?_ ?_ l.length 0 st (by omega) ⟨Nat.le_refl _, Nat.le_refl _, hD, fun j z hj => by omega⟩) ?_
  · rintro S ⟨h1, h2, h3, h4⟩
    rw [loop_impl_poseStep_1]
    simp only [bind_some', aBin_lss, cnd_dec, Int.lt_irrefl, if_false]
    have hr : reckM (namesM l) l ps kn = none := findSome_no fun j z hz => h4 j z (List.getElem?_eq_some_iff.1 hz).1 hz
    rw [hr]
    exact ⟨_, rfl, _, S, rfl, h1, h2, rfl, h3⟩
  · rintro i S hi ⟨h1, h2, h3, h4⟩ ih
    obtain ⟨p, q1, _, q2⟩ := FS.get (st := S) h (List.getElem?_eq_getElem hi) .i64
    have hmem : l[i] ∈ l := List.getElem_mem hi
    obtain ⟨et, lt⟩ := ixN_of (flist_to hf hmem)
    have none_next : stepAt (namesM l) ps kn l[i] = none → ∀ S', st.n ≤ S'.n → st.m ≤ S'.m → DR S' va vk ps kn → Ok (L.loop [1, 2, 3, 17, 18, 19] [8] b_impl_poseStep_1 [vn, va, vk, vl, .int .i64 l.length, .int .i64 (i + 1 : Nat)] S') (stepRR st.n st.m va vk ps kn (reckM (namesM l) l ps kn)) := fun hno S' g1 g2 g3 => ih S' ⟨g1, g2, g3, fun j z hj hz => by
      by_cases e : j = i
      · subst e; rw [List.getElem?_eq_getElem hi] at hz; cases hz; exact hno
      · exact h4 j z (by omega) hz⟩
    have found : ∀ x q, stepAt (namesM l) ps kn l[i] = some (x, q) → reckM (namesM l) l ps kn = some (x, q) := fun x q hx => findSome_take (List.getElem?_eq_getElem hi) hx h4
    rw [loop_impl_poseStep_1]
    simp only [bind_some', aBin_lss, aBin_leq, aBin_gtr, aBin_geq, aBin_eql, aBin_neq, aBin_add, aBin_sub, aBin_mul, aBin_seql, aBin_sneq, aBinb_eql, aBinb_neq, aUn_not, aUn_neg, aSlen_str, extr0, extr1, extr2, q1, q2]
    refine Ok.cnd (fun _ => ?_) fun hf => absurd hf (by omega)
    obtain ⟨j1, t1, j2, t2, H1, H2, b1, b2, b3⟩ := h3
    have n1 : ¬ j1 = S.m := by omega
    have n2 : ¬ j2 = S.m := by omega
    have n3 : ¬ j1 = S.m + 1 := by omega
    have n4 : ¬ j2 = S.m + 1 := by omega
    have n5 : ¬ j1 = S.m + 2 := by omega
    have n6 : ¬ j2 = S.m + 2 := by omega
    have n7 : ¬ j1 = S.m + 1 + 1 := by omega
    have n8 : ¬ j2 = S.m + 1 + 1 := by omega
    have D0 : ∀ S', S'.H j1 = S.H j1 → S'.H j2 = S.H j2 → S.m ≤ S'.m → Loc S' j1 t1 3 va (ps.map poseV) ∧ Loc S' j2 t2 1 vk (kn.map AV.bool) := fun S' e1 e2 _ => ⟨H1.frame e1, H2.frame e2⟩
    have ik : ∀ x : Nat, x < (namesM l).length → aIaddr 1 vk (.int .i64 (x : Int)) = some (.ptr j2 t2 x 0) := fun x hx => by rw [H2.1]; exact iaddr_lsl (by rw [List.length_map]; omega)
    have ip : ∀ x : Nat, x < (namesM l).length → aIaddr 3 va (.int .i64 (x : Int)) = some (.ptr j1 t1 x 0) := fun x hx => by rw [H1.1]; exact iaddr_lsl (by rw [List.length_map]; omega)
    have lk : ∀ x : Nat, x < (namesM l).length → aLoad false 1 S (.ptr j2 t2 x 0) = some (.bool (kb kn x)) := fun x hx => by
      have hx' : x < kn.length := by omega
      simp [aLoad, H2.get, kb, List.getElem?_eq_getElem hx', ldCells, AV.cells]
    have lp : ∀ x : Nat, x < (namesM l).length → aLoad true 3 S (.ptr j1 t1 x 0) = some (poseV (pa ps x)) := fun x hx => by
      have hx' : x < ps.length := by omega
      simp [aLoad, H1.get, pa, List.getElem?_eq_getElem hx', ldCells, AV.cells, poseV]
    have ret : ∀ (x : Nat) (q : Pos) (S' : St), x < (namesM l).length → stepAt (namesM l) ps kn l[i] = some (x, q) → S'.H j1 = S.H j1 → S'.H j2 = S.H j2 → S.m ≤ S'.m → S.n ≤ S'.n →
        Ok ((aStore 3 (.ptr j1 t1 x 0) (poseV q) S').bind fun vs => (aStore 1 (.ptr j2 t2 x 0) (.bool true) vs).bind fun vs2 => some (XT.ret, [AV.bool true], vs2)) (stepRR st.n st.m va vk ps kn (reckM (namesM l) l ps kn)) := fun x q S' hx hs e1 e2 e3 e4 => by
      obtain ⟨L1, L2⟩ := D0 S' e1 e2 e3
      obtain ⟨S1, S2, c1, c2, c3, c4, c5⟩ := loc_store L1 L2 (by omega) (by omega) b3 (i := x) (by omega) (by omega) q
      rw [c1, bind_some', c2, bind_some']
      have hr := found x q hs
      exact ⟨_, rfl, .bool true, S2, by rw [hr], by rw [hr]; exact ⟨(by rw [c5]; omega : st.n ≤ S2.n), (by rw [c4]; omega : st.m ≤ S2.m), rfl, c3⟩⟩
    have nx : ∀ S', stepAt (namesM l) ps kn l[i] = none → S'.H j1 = S.H j1 → S'.H j2 = S.H j2 → S.m ≤ S'.m → S.n ≤ S'.n → Ok (L.loop [1, 2, 3, 17, 18, 19] [8] b_impl_poseStep_1 [vn, va, vk, vl, .int .i64 l.length, .int .i64 (i + 1 : Nat)] S') (stepRR st.n st.m va vk ps kn (reckM (namesM l) l ps kn)) := fun S' hs e1 e2 e3 e4 =>
      none_next hs S' (by omega) (by omega) ⟨j1, t1, j2, t2, (D0 S' e1 e2 e3).1, (D0 S' e1 e2 e3).2, by omega, by omega, b3⟩
    simp only [facV, retV_one, retV_two, retV_three, mkNew_agg, mkNew_zc, ld_top, ld_old, ld_setN, sto_top, setN_setN, faddr_ptr, faddr_eptr, ld_eptr, new_m', new_n', setN_m', setN_n', st0_m', st0_n', put_m', put_n', AV.cells, AV.one, AV.stor, ldCells, setElem, splice, List.all_cons, List.all_nil, List.length_cons, List.length_nil, List.drop, List.take, List.head?_cons, List.getElem?_cons_zero, List.getElem?_cons_succ, List.set_cons_zero, List.nil_append, List.cons_append, List.append_nil, List.drop_zero, List.drop_succ_cons, List.drop_nil, List.take_zero, List.take_succ_cons, List.take_nil, cond_true, cond_false, Bool.and_self, Bool.and_true, and_self, and_true, true_and, if_true, bind_some', Nat.add_zero, Nat.zero_add, Nat.reduceAdd, Nat.reduceLeDiff, ne_eq, not_false_eq_true, Nat.add_eq_zero_iff, Nat.reduceEqDiff, one_ne_zero', zero_ne_one', nne1, nne2, nne3, Nat.add_right_cancel_iff, Nat.add_left_cancel_iff, Nat.le_refl, reduceCtorEq, bind_some', aBin_lss, aBin_leq, aBin_gtr, aBin_geq, aBin_eql, aBin_neq, aBin_add, aBin_sub, aBin_mul, aBin_seql, aBin_sneq, aBinb_eql, aBinb_neq, aUn_not, aUn_neg, aSlen_str, extr0, extr1, extr2]
    refine Ok.gives (nameIndex_ok hn (by omega) l[i].frm) (plain2 hn.plain (plain_str _)) fun m1 g1 => ?_
    simp only [retV_one, retV_two, retV_three, mkNew_agg, mkNew_zc, ld_top, ld_old, ld_setN, sto_top, setN_setN, faddr_ptr, faddr_eptr, ld_eptr, new_m', new_n', setN_m', setN_n', st0_m', st0_n', put_m', put_n', AV.cells, AV.one, AV.stor, ldCells, setElem, splice, List.all_cons, List.all_nil, List.length_cons, List.length_nil, List.drop, List.take, List.head?_cons, List.getElem?_cons_zero, List.getElem?_cons_succ, List.set_cons_zero, List.nil_append, List.cons_append, List.append_nil, List.drop_zero, List.drop_succ_cons, List.drop_nil, List.take_zero, List.take_succ_cons, List.take_nil, cond_true, cond_false, Bool.and_self, Bool.and_true, and_self, and_true, true_and, if_true, bind_some', Nat.add_zero, Nat.zero_add, Nat.reduceAdd, Nat.reduceLeDiff, ne_eq, not_false_eq_true, Nat.add_eq_zero_iff, Nat.reduceEqDiff, one_ne_zero', zero_ne_one', nne1, nne2, nne3, Nat.add_right_cancel_iff, Nat.add_left_cancel_iff, Nat.le_refl, reduceCtorEq]
    refine Ok.gives (nameIndex_ok hn (by omega) l[i].to) (plain2 hn.plain (plain_str _)) fun m2 g2 => ?_
    have g2' : S.n + 1 ≤ m2 := by
      have a1 : S.n + 1 ≤ m1 := g1
      have a2 : m1 ≤ m2 := g2
      omega
    have lt' := lt
    by_cases hk1 : l[i].kind = 1
    · simp only [retV_one, retV_two, retV_three, mkNew_agg, mkNew_zc, ld_top, ld_old, ld_setN, sto_top, setN_setN, faddr_ptr, faddr_eptr, ld_eptr, new_m', new_n', setN_m', setN_n', st0_m', st0_n', put_m', put_n', AV.cells, AV.one, AV.stor, ldCells, setElem, splice, List.all_cons, List.all_nil, List.length_cons, List.length_nil, List.drop, List.take, List.head?_cons, List.getElem?_cons_zero, List.getElem?_cons_succ, List.set_cons_zero, List.nil_append, List.cons_append, List.append_nil, List.drop_zero, List.drop_succ_cons, List.drop_nil, List.take_zero, List.take_succ_cons, List.take_nil, cond_true, cond_false, Bool.and_self, Bool.and_true, and_self, and_true, true_and, if_true, bind_some', Nat.add_zero, Nat.zero_add, Nat.reduceAdd, Nat.reduceLeDiff, ne_eq, not_false_eq_true, Nat.add_eq_zero_iff, Nat.reduceEqDiff, one_ne_zero', zero_ne_one', nne1, nne2, nne3, Nat.add_right_cancel_iff, Nat.add_left_cancel_iff, Nat.le_refl, reduceCtorEq, bind_some', aBin_lss, aBin_leq, aBin_gtr, aBin_geq, aBin_eql, aBin_neq, aBin_add, aBin_sub, aBin_mul, aBin_seql, aBin_sneq, aBinb_eql, aBinb_neq, aUn_not, aUn_neg, aSlen_str, extr0, extr1, extr2, et, ik _ lt, ip _ lt, lk _ lt, n1, n2, n3, n4, n5, n6, n7, n8]
      refine Ok.cnd (fun _ => ?_) fun h => absurd hk1 h
      refine Ok.cndnb (fun hb => ?_) fun hb => ?_
      · exact ret _ l[i].p _ lt (by simp [stepAt, hk1, hb]) (by simp only [St.setN, St.new, nbeq, n1, n2, n3, n4, n5, n6, n7, n8, decide_false, cond_false]) (by simp only [St.setN, St.new, nbeq, n1, n2, n3, n4, n5, n6, n7, n8, decide_false, cond_false]) (by simp only [new_m', setN_m']; omega) (by simp only [new_n', setN_n'] at *; omega)
      · refine Ok.cnd (fun h => by omega) fun _ => ?_
        refine Ok.cnd (fun h => by omega) fun _ => ?_
        rw [wrap_i (by omega)]
        exact nx _ (by simp [stepAt, hk1, hb]) (by simp only [St.setN, St.new, nbeq, n1, n2, n3, n4, n5, n6, n7, n8, decide_false, cond_false]) (by simp only [St.setN, St.new, nbeq, n1, n2, n3, n4, n5, n6, n7, n8, decide_false, cond_false]) (by simp only [new_m', setN_m']; omega) (by simp only [new_n', setN_n'] at *; omega)
    · by_cases hk2 : l[i].kind = 2
      · obtain ⟨ef, lf⟩ := ixN_of (flist_frm hf hmem hk1)
        simp only [retV_one, retV_two, retV_three, mkNew_agg, mkNew_zc, ld_top, ld_old, ld_setN, sto_top, setN_setN, faddr_ptr, faddr_eptr, ld_eptr, new_m', new_n', setN_m', setN_n', st0_m', st0_n', put_m', put_n', AV.cells, AV.one, AV.stor, ldCells, setElem, splice, List.all_cons, List.all_nil, List.length_cons, List.length_nil, List.drop, List.take, List.head?_cons, List.getElem?_cons_zero, List.getElem?_cons_succ, List.set_cons_zero, List.nil_append, List.cons_append, List.append_nil, List.drop_zero, List.drop_succ_cons, List.drop_nil, List.take_zero, List.take_succ_cons, List.take_nil, cond_true, cond_false, Bool.and_self, Bool.and_true, and_self, and_true, true_and, if_true, bind_some', Nat.add_zero, Nat.zero_add, Nat.reduceAdd, Nat.reduceLeDiff, ne_eq, not_false_eq_true, Nat.add_eq_zero_iff, Nat.reduceEqDiff, one_ne_zero', zero_ne_one', nne1, nne2, nne3, Nat.add_right_cancel_iff, Nat.add_left_cancel_iff, Nat.le_refl, reduceCtorEq, bind_some', aBin_lss, aBin_leq, aBin_gtr, aBin_geq, aBin_eql, aBin_neq, aBin_add, aBin_sub, aBin_mul, aBin_seql, aBin_sneq, aBinb_eql, aBinb_neq, aUn_not, aUn_neg, aSlen_str, extr0, extr1, extr2, et, ef, ik _ lt, ip _ lt, lk _ lt, lp _ lt, ik _ lf, ip _ lf, lk _ lf, lp _ lf, n1, n2, n3, n4, n5, n6, n7, n8]
        refine Ok.cnd (fun h => absurd h hk1) fun _ => ?_
        refine Ok.cnd (fun _ => ?_) fun h => absurd hk2 h
        refine Ok.cndb (fun ha => ?_) fun ha => ?_
        · refine Ok.cndnb (fun hb => ?_) fun hb => ?_
          · refine Ok.gives (compose_impl (pa ps (ixN (namesM l) l[i].frm)) l[i].p) (pB rfl) fun m3 g3 => ?_
            simp only [poseV, retV_one, retV_two, retV_three, mkNew_agg, mkNew_zc, ld_top, ld_old, ld_setN, sto_top, setN_setN, faddr_ptr, faddr_eptr, ld_eptr, new_m', new_n', setN_m', setN_n', st0_m', st0_n', put_m', put_n', AV.cells, AV.one, AV.stor, ldCells, setElem, splice, List.all_cons, List.all_nil, List.length_cons, List.length_nil, List.drop, List.take, List.head?_cons, List.getElem?_cons_zero, List.getElem?_cons_succ, List.set_cons_zero, List.nil_append, List.cons_append, List.append_nil, List.drop_zero, List.drop_succ_cons, List.drop_nil, List.take_zero, List.take_succ_cons, List.take_nil, cond_true, cond_false, Bool.and_self, Bool.and_true, and_self, and_true, true_and, if_true, bind_some', Nat.add_zero, Nat.zero_add, Nat.reduceAdd, Nat.reduceLeDiff, ne_eq, not_false_eq_true, Nat.add_eq_zero_iff, Nat.reduceEqDiff, one_ne_zero', zero_ne_one', nne1, nne2, nne3, Nat.add_right_cancel_iff, Nat.add_left_cancel_iff, Nat.le_refl, reduceCtorEq, bind_some', aBin_lss, aBin_leq, aBin_gtr, aBin_geq, aBin_eql, aBin_neq, aBin_add, aBin_sub, aBin_mul, aBin_seql, aBin_sneq, aBinb_eql, aBinb_neq, aUn_not, aUn_neg, aSlen_str, extr0, extr1, extr2, et, ef, ik _ lt, ip _ lt, lk _ lt, lp _ lt, ik _ lf, ip _ lf, lk _ lf, lp _ lf, n1, n2, n3, n4, n5, n6, n7, n8]
            refine Ok.cndb (fun hc => ?_) fun hc => ?_
            · exact ret _ (compM (pa ps (ixN (namesM l) l[i].frm)) l[i].p).1 _ lt (by simp [stepAt, hk1, hk2, ha, hb, hc]) (by simp only [St.setN, St.new, nbeq, n1, n2, n3, n4, n5, n6, n7, n8, decide_false, cond_false]) (by simp only [St.setN, St.new, nbeq, n1, n2, n3, n4, n5, n6, n7, n8, decide_false, cond_false]) (by simp only [new_m', setN_m']; omega) (by simp only [new_n', setN_n'] at *; omega)
            · refine Ok.cnd (fun _ => ?_) fun h => absurd hk2 h
              rw [ha]
              rw [wrap_i (by omega)]
              exact nx _ (by simp [stepAt, hk1, hk2, ha, hb, hc]) (by simp only [St.setN, St.new, nbeq, n1, n2, n3, n4, n5, n6, n7, n8, decide_false, cond_false]) (by simp only [St.setN, St.new, nbeq, n1, n2, n3, n4, n5, n6, n7, n8, decide_false, cond_false]) (by simp only [new_m', setN_m']; omega) (by simp only [new_n', setN_n'] at *; omega)
          · refine Ok.cnd (fun _ => ?_) fun h => absurd hk2 h
            rw [ha]
            rw [wrap_i (by omega)]
            exact nx _ (by simp [stepAt, hk1, hk2, ha, hb]) (by simp only [St.setN, St.new, nbeq, n1, n2, n3, n4, n5, n6, n7, n8, decide_false, cond_false]) (by simp only [St.setN, St.new, nbeq, n1, n2, n3, n4, n5, n6, n7, n8, decide_false, cond_false]) (by simp only [new_m', setN_m']; omega) (by simp only [new_n', setN_n'] at *; omega)
        · refine Ok.cnd (fun _ => ?_) fun h => absurd hk2 h
          refine Ok.cndnb (fun _ => ?_) fun h => by rw [ha] at h; cases h
          refine Ok.cndb (fun hb => ?_) fun hb => ?_
          · refine Ok.gives (Inverse_impl l[i].p) (pB rfl) fun m3 g3 => ?_
            simp only [poseV, retV_one, retV_two, retV_three, mkNew_agg, mkNew_zc, ld_top, ld_old, ld_setN, sto_top, setN_setN, faddr_ptr, faddr_eptr, ld_eptr, new_m', new_n', setN_m', setN_n', st0_m', st0_n', put_m', put_n', AV.cells, AV.one, AV.stor, ldCells, setElem, splice, List.all_cons, List.all_nil, List.length_cons, List.length_nil, List.drop, List.take, List.head?_cons, List.getElem?_cons_zero, List.getElem?_cons_succ, List.set_cons_zero, List.nil_append, List.cons_append, List.append_nil, List.drop_zero, List.drop_succ_cons, List.drop_nil, List.take_zero, List.take_succ_cons, List.take_nil, cond_true, cond_false, Bool.and_self, Bool.and_true, and_self, and_true, true_and, if_true, bind_some', Nat.add_zero, Nat.zero_add, Nat.reduceAdd, Nat.reduceLeDiff, ne_eq, not_false_eq_true, Nat.add_eq_zero_iff, Nat.reduceEqDiff, one_ne_zero', zero_ne_one', nne1, nne2, nne3, Nat.add_right_cancel_iff, Nat.add_left_cancel_iff, Nat.le_refl, reduceCtorEq, bind_some', aBin_lss, aBin_leq, aBin_gtr, aBin_geq, aBin_eql, aBin_neq, aBin_add, aBin_sub, aBin_mul, aBin_seql, aBin_sneq, aBinb_eql, aBinb_neq, aUn_not, aUn_neg, aSlen_str, extr0, extr1, extr2, et, ef, ik _ lt, ip _ lt, lk _ lt, lp _ lt, ik _ lf, ip _ lf, lk _ lf, lp _ lf, n1, n2, n3, n4, n5, n6, n7, n8]
            refine Ok.gives (compose_impl (pa ps (ixN (namesM l) l[i].to)) (invM l[i].p)) (pB rfl) fun m4 g4 => ?_
            simp only [poseV, retV_one, retV_two, retV_three, mkNew_agg, mkNew_zc, ld_top, ld_old, ld_setN, sto_top, setN_setN, faddr_ptr, faddr_eptr, ld_eptr, new_m', new_n', setN_m', setN_n', st0_m', st0_n', put_m', put_n', AV.cells, AV.one, AV.stor, ldCells, setElem, splice, List.all_cons, List.all_nil, List.length_cons, List.length_nil, List.drop, List.take, List.head?_cons, List.getElem?_cons_zero, List.getElem?_cons_succ, List.set_cons_zero, List.nil_append, List.cons_append, List.append_nil, List.drop_zero, List.drop_succ_cons, List.drop_nil, List.take_zero, List.take_succ_cons, List.take_nil, cond_true, cond_false, Bool.and_self, Bool.and_true, and_self, and_true, true_and, if_true, bind_some', Nat.add_zero, Nat.zero_add, Nat.reduceAdd, Nat.reduceLeDiff, ne_eq, not_false_eq_true, Nat.add_eq_zero_iff, Nat.reduceEqDiff, one_ne_zero', zero_ne_one', nne1, nne2, nne3, Nat.add_right_cancel_iff, Nat.add_left_cancel_iff, Nat.le_refl, reduceCtorEq, bind_some', aBin_lss, aBin_leq, aBin_gtr, aBin_geq, aBin_eql, aBin_neq, aBin_add, aBin_sub, aBin_mul, aBin_seql, aBin_sneq, aBinb_eql, aBinb_neq, aUn_not, aUn_neg, aSlen_str, extr0, extr1, extr2, et, ef, ik _ lt, ip _ lt, lk _ lt, lp _ lt, ik _ lf, ip _ lf, lk _ lf, lp _ lf, n1, n2, n3, n4, n5, n6, n7, n8]
            refine Ok.cndb (fun hc => ?_) fun hc => ?_
            · exact ret _ (compM (pa ps (ixN (namesM l) l[i].to)) (invM l[i].p)).1 _ lf (by simp [stepAt, hk1, hk2, ha, hb, hc]) (by simp only [St.setN, St.new, nbeq, n1, n2, n3, n4, n5, n6, n7, n8, decide_false, cond_false]) (by simp only [St.setN, St.new, nbeq, n1, n2, n3, n4, n5, n6, n7, n8, decide_false, cond_false]) (by simp only [new_m', setN_m']; omega) (by simp only [new_n', setN_n'] at *; omega)
            · rw [wrap_i (by omega)]
              exact nx _ (by simp [stepAt, hk1, hk2, ha, hb, hc]) (by simp only [St.setN, St.new, nbeq, n1, n2, n3, n4, n5, n6, n7, n8, decide_false, cond_false]) (by simp only [St.setN, St.new, nbeq, n1, n2, n3, n4, n5, n6, n7, n8, decide_false, cond_false]) (by simp only [new_m', setN_m']; omega) (by simp only [new_n', setN_n'] at *; omega)
          · rw [wrap_i (by omega)]
            exact nx _ (by simp [stepAt, hk1, hk2, ha, hb]) (by simp only [St.setN, St.new, nbeq, n1, n2, n3, n4, n5, n6, n7, n8, decide_false, cond_false]) (by simp only [St.setN, St.new, nbeq, n1, n2, n3, n4, n5, n6, n7, n8, decide_false, cond_false]) (by simp only [new_m', setN_m']; omega) (by simp only [new_n', setN_n'] at *; omega)
      · simp only [retV_one, retV_two, retV_three, mkNew_agg, mkNew_zc, ld_top, ld_old, ld_setN, sto_top, setN_setN, faddr_ptr, faddr_eptr, ld_eptr, new_m', new_n', setN_m', setN_n', st0_m', st0_n', put_m', put_n', AV.cells, AV.one, AV.stor, ldCells, setElem, splice, List.all_cons, List.all_nil, List.length_cons, List.length_nil, List.drop, List.take, List.head?_cons, List.getElem?_cons_zero, List.getElem?_cons_succ, List.set_cons_zero, List.nil_append, List.cons_append, List.append_nil, List.drop_zero, List.drop_succ_cons, List.drop_nil, List.take_zero, List.take_succ_cons, List.take_nil, cond_true, cond_false, Bool.and_self, Bool.and_true, and_self, and_true, true_and, if_true, bind_some', Nat.add_zero, Nat.zero_add, Nat.reduceAdd, Nat.reduceLeDiff, ne_eq, not_false_eq_true, Nat.add_eq_zero_iff, Nat.reduceEqDiff, one_ne_zero', zero_ne_one', nne1, nne2, nne3, Nat.add_right_cancel_iff, Nat.add_left_cancel_iff, Nat.le_refl, reduceCtorEq, bind_some', aBin_lss, aBin_leq, aBin_gtr, aBin_geq, aBin_eql, aBin_neq, aBin_add, aBin_sub, aBin_mul, aBin_seql, aBin_sneq, aBinb_eql, aBinb_neq, aUn_not, aUn_neg, aSlen_str, extr0, extr1, extr2, n1, n2, n3, n4]
        refine Ok.cnd (fun h => absurd h hk1) fun _ => ?_
        refine Ok.cnd (fun h => absurd h hk2) fun _ => ?_
        refine Ok.cnd (fun h => absurd h hk2) fun _ => ?_
        rw [wrap_i (by omega)]
        exact nx _ (by simp [stepAt, hk1, hk2]) (by simp only [St.setN, St.new, nbeq, n1, n2, n3, n4, n5, n6, n7, n8, decide_false, cond_false]) (by simp only [St.setN, St.new, nbeq, n1, n2, n3, n4, n5, n6, n7, n8, decide_false, cond_false]) (by simp only [new_m', setN_m']; omega) (by simp only [new_n', setN_n'] at *; omega)
  · rintro _ ⟨v, st', rfl, hQ⟩
    cases hr : reckM (namesM l) l ps kn with
    | none => rw [hr] at hQ; rw [k_impl_poseStep_1i_0]; exact ⟨_, rfl, hQ⟩
    | some x => rw [hr] at hQ; rw [k_impl_poseStep_1i_ret]; exact ⟨_, rfl, hQ⟩

theorem hasString_ok {v : AV} {l : List ByteArray} (h : SS v l) (hl : l.length ≤ 4294967296) (s : ByteArray) : Gives i_impl_hasString [v, .str s] (.bool (hasS l s)) := by
  intro n
  rw [call_impl_hasString, SlOf.len h, bind_some', hasS_fidx]
  refine Ok.bind (P := fun r => ∃ st', n ≤ st'.n ∧ ((r = (.exit 0, [.undef], st') ∧ fidx (fun x => decide (x = s)) l = -1) ∨ (r = (.ret, [.bool true], st') ∧ fidx (fun x => decide (x = s)) l ≠ -1)))
    (find_loop (p := fun x => decide (x = s)) (l := l) (n0 := n) (fun i st => L.loop [1, 7, 8, 9] [4] b_impl_hasString_1 [.str s, v, .int .i64 l.length, .int .i64 i] st) l.length rfl ?_ ?_ (st0 n) (Nat.le_refl _)) ?_
  · intro st hn hf
    rw [loop_impl_hasString_1]
    simp only [bind_some', aBin_lss, cnd_dec, Int.lt_irrefl, if_false]
    exact ⟨_, rfl, st, hn, .inl ⟨rfl, hf⟩⟩
  · intro i x st hx hn _ hno hyes
    have hi := (List.getElem?_eq_some_iff.1 hx).1
    obtain ⟨p, q1, q2⟩ := SS.get (st := st) h hx .i64
    rw [loop_impl_hasString_1]
    simp only [bind_some', aBin_lss, aBin_leq, aBin_gtr, aBin_geq, aBin_eql, aBin_neq, aBin_add, aBin_sub, aBin_mul, aBin_seql, aBin_sneq, aBinb_eql, aBinb_neq, aUn_not, aUn_neg, aSlen_str, extr0, extr1, extr2, q1, q2]
    refine Ok.cnd (fun _ => ?_) fun hf => absurd hf (by omega)
    refine Ok.cnd (fun hp => ?_) fun hp => ?_
    · exact ⟨_, rfl, st, hn, .inr ⟨rfl, by rw [hyes (decide_eq_true hp)]; omega⟩⟩
    · rw [wrap64 (by omega) (by omega)]; exact hno (decide_eq_false hp) st hn
  · rintro _ ⟨st', hn, ⟨rfl, hf⟩ | ⟨rfl, hf⟩⟩
    · rw [k_impl_hasString_1_0]; exact Ok.retb hn (by simp [hf])
    · rw [k_impl_hasString_1_ret]; exact Ok.retb hn (by simp [hf])

theorem NamesOf_impl {v : AV} {l : List Fac} (h : FS v l) (hl : l.length ≤ 1048576) (n : Nat) : Ok (L.call i_impl_NamesOf [v] n) fun p => n ≤ p.2 ∧ SS p.1 (namesM l) ∧ New 1 n p.2 p.1 := by
  rw [call_impl_NamesOf, lit0_s, SlOf.len h, bind_some']
  refine Ok.bind (P := fun r => ∃ w st, r = (.exit 0, [.undef, w], st) ∧ AccS n st w (namesM l) ∧ n ≤ st.n)
    (Ok.loop (σ := AV × St) (Lp := fun i s => L.loop [3, 7, 8, 9] [2, 3] b_impl_NamesOf_1 [s.1, v, .int .i64 l.length, .int .i64 i] s.2) (I := fun i s => AccS n s.2 s.1 (namesM (l.take i)) ∧ n ≤ s.2.n) l.length ?_ ?_ l.length 0 (.lsl (st0 n).m (st0 n).n 1 0 0, (st0 n).new 1 []) (by omega) ⟨AccS.lit (Nat.le_refl _), Nat.le_succ _⟩) ?_
  · rintro ⟨w, st⟩ ⟨hA, hn⟩
    rw [loop_impl_NamesOf_1]
    simp only [bind_some', aBin_lss, cnd_dec, Int.lt_irrefl, if_false]
    rw [List.take_length] at hA
    exact ⟨_, rfl, w, st, rfl, hA, hn⟩
  · rintro i ⟨w, st⟩ hi ⟨hA, hn⟩ ih
    dsimp only at hA hn
    obtain ⟨p, q1, _, q2⟩ := FS.get (st := st) h (List.getElem?_eq_getElem hi) .i64
    have hnl := names_length (l.take i)
    have hstep := names_take l i l[i] (List.getElem?_eq_getElem hi)
    rw [List.length_take] at hnl
    have a1 := nmAdd_length (namesM (l.take i)) l[i].frm
    have fin : ∀ w' st', AccS n st' w' (nmStep (namesM (l.take i)) l[i]) → n ≤ st'.n → Ok (L.loop [3, 7, 8, 9] [2, 3] b_impl_NamesOf_1 [w', v, .int .i64 l.length, .int .i64 ((i : Int) + 1)] st') (fun r : XT × List AV × St => ∃ w st, r = (.exit 0, [.undef, w], st) ∧ AccS n st w (namesM l) ∧ n ≤ st.n) := fun w' st' g1 g2 => ih (w', st') ⟨by rw [hstep]; exact g1, g2⟩
    rw [loop_impl_NamesOf_1]
    simp only [bind_some', aBin_lss, aBin_leq, aBin_gtr, aBin_geq, aBin_eql, aBin_neq, aBin_add, aBin_sub, aBin_mul, aBin_seql, aBin_sneq, aBinb_eql, aBinb_neq, aUn_not, aUn_neg, aSlen_str, extr0, extr1, extr2, q1, q2]
    refine Ok.cnd (fun _ => ?_) fun hf => absurd hf (by omega)
    rw [wrap64 (x := (i : Int) + 1) (by omega) (by omega)]
    -- the second name
    have second : ∀ w1 st1, AccS n st1 w1 (nmAdd (namesM (l.take i)) l[i].frm) → n ≤ st1.n → (∀ g s f, aLoad g s st1 (.ptr st.m st.n 0 f) = ldCells g s ((facV l[i]).cells.drop f)) → Ok
        (Go.Proofs.YtbomeeiaeohbpaaFw.cnd (.bool (decide (¬ l[i].to = ⟨#[]⟩)))
          ((clV L i_impl_hasString 0 [w1, .str l[i].to] st1).bind fun r => (aUn .not r.1).bind fun c => Go.Proofs.YtbomeeiaeohbpaaFw.cnd c
            ((aLoad false 1 r.2 (.ptr st.m st.n 0 3)).bind fun a => mkLit 1 1 (.str ⟨#[]⟩) [(0, a)] r.2 fun y s2 => (aApp 1 w1 y s2).bind fun z => L.loop [3, 7, 8, 9] [2, 3] b_impl_NamesOf_1 [z.1, v, .int .i64 l.length, .int .i64 ((i : Int) + 1)] z.2)
            (L.loop [3, 7, 8, 9] [2, 3] b_impl_NamesOf_1 [w1, v, .int .i64 l.length, .int .i64 ((i : Int) + 1)] r.2))
          (L.loop [3, 7, 8, 9] [2, 3] b_impl_NamesOf_1 [w1, v, .int .i64 l.length, .int .i64 ((i : Int) + 1)] st1)) (fun r : XT × List AV × St => ∃ w st, r = (.exit 0, [.undef, w], st) ∧ AccS n st w (namesM l) ∧ n ≤ st.n) := by
      intro w1 st1 g1 g2 g3
      refine Ok.cnd (fun he => ?_) fun he => ?_
      · obtain ⟨T, _, t2, t3, _⟩ := g1.fin
        refine Ok.givesL (hasString_ok t3 (by omega) l[i].to) (by simp only [mapO, t2, Option.bind_some]; rfl) (reloc_bool · _) fun m hm => ?_
        (simp only [retV_one, retV_two, retV_three, mkNew_agg, mkNew_zc, ld_top, ld_old, ld_setN, sto_top, sto_old, sto_setN, faddr_ptr, faddr_eptr, ld_eptr, new_m', new_n', setN_m', setN_n', st0_m', st0_n', put_m', put_n', AV.cells, AV.one, AV.stor, ldCells, setElem, splice, List.all_cons, List.all_nil, List.length_cons, List.length_nil, List.drop, List.take, List.head?_cons, List.getElem?_cons_zero, List.getElem?_cons_succ, List.set_cons_zero, List.nil_append, List.cons_append, List.append_nil, List.drop_zero, List.drop_succ_cons, List.drop_nil, List.take_zero, List.take_succ_cons, List.take_nil, cond_true, cond_false, Bool.and_self, Bool.and_true, and_self, and_true, true_and, if_true, bind_some', Nat.add_zero, Nat.zero_add, Nat.reduceAdd, Nat.reduceLeDiff, ne_eq, not_false_eq_true, Nat.add_eq_zero_iff, Nat.reduceEqDiff, one_ne_zero', zero_ne_one', nne1, nne2, nne3, Nat.add_right_cancel_iff, Nat.add_left_cancel_iff, Nat.le_refl, reduceCtorEq, bind_some', aBin_lss, aBin_leq, aBin_gtr, aBin_geq, aBin_eql, aBin_neq, aBin_add, aBin_sub, aBin_mul, aBin_seql, aBin_sneq, aBinb_eql, aBinb_neq, aUn_not, aUn_neg, aSlen_str, extr0, extr1, extr2])
        refine Ok.cndnb (fun hb => ?_) fun hb => ?_
        · simp only [g3, facV, retV_one, retV_two, retV_three, mkNew_agg, mkNew_zc, ld_top, ld_old, ld_setN, sto_top, sto_old, sto_setN, faddr_ptr, faddr_eptr, ld_eptr, new_m', new_n', setN_m', setN_n', st0_m', st0_n', put_m', put_n', AV.cells, AV.one, AV.stor, ldCells, setElem, splice, List.all_cons, List.all_nil, List.length_cons, List.length_nil, List.drop, List.take, List.head?_cons, List.getElem?_cons_zero, List.getElem?_cons_succ, List.set_cons_zero, List.nil_append, List.cons_append, List.append_nil, List.drop_zero, List.drop_succ_cons, List.drop_nil, List.take_zero, List.take_succ_cons, List.take_nil, cond_true, cond_false, Bool.and_self, Bool.and_true, and_self, and_true, true_and, if_true, bind_some', Nat.add_zero, Nat.zero_add, Nat.reduceAdd, Nat.reduceLeDiff, ne_eq, not_false_eq_true, Nat.add_eq_zero_iff, Nat.reduceEqDiff, one_ne_zero', zero_ne_one', nne1, nne2, nne3, Nat.add_right_cancel_iff, Nat.add_left_cancel_iff, Nat.le_refl, reduceCtorEq]
          refine Ok.pushS (g1.setN hm) (Nat.le_trans g2 hm) (by omega) fun w2 st2 k1 k2 k3 k4 k5 => fin w2 st2 ?_ (Nat.le_trans g2 (Nat.le_trans hm k3))
          simp only [nmStep]; rw [show nmAdd (nmAdd (namesM (l.take i)) l[i].frm) l[i].to = nmAdd (namesM (l.take i)) l[i].frm ++ [l[i].to] by rw [nmAdd, if_neg he, if_neg (by rw [hb]; exact Bool.false_ne_true)]]; exact k1
        · refine fin w1 _ ?_ (Nat.le_trans g2 hm)
          simp only [nmStep]; rw [show nmAdd (nmAdd (namesM (l.take i)) l[i].frm) l[i].to = nmAdd (namesM (l.take i)) l[i].frm by rw [nmAdd, if_neg he, if_pos hb]]; exact g1.setN hm
      · have he : l[i].to = ⟨#[]⟩ := Decidable.not_not.1 he
        refine fin w1 _ ?_ g2
        simp only [nmStep]; rw [show nmAdd (nmAdd (namesM (l.take i)) l[i].frm) l[i].to = nmAdd (namesM (l.take i)) l[i].frm by rw [nmAdd, if_pos he]]; exact g1
    have hld : ∀ (S : St) g s f, aLoad g s (S.new 8 [facV l[i]]) (.ptr S.m S.n 0 f) = ldCells g s ((facV l[i]).cells.drop f) := fun S g s f => by rw [ld_top rfl rfl]; rfl
    simp only [facV, retV_one, retV_two, retV_three, mkNew_agg, mkNew_zc, ld_top, ld_old, ld_setN, sto_top, sto_old, sto_setN, faddr_ptr, faddr_eptr, ld_eptr, new_m', new_n', setN_m', setN_n', st0_m', st0_n', put_m', put_n', AV.cells, AV.one, AV.stor, ldCells, setElem, splice, List.all_cons, List.all_nil, List.length_cons, List.length_nil, List.drop, List.take, List.head?_cons, List.getElem?_cons_zero, List.getElem?_cons_succ, List.set_cons_zero, List.nil_append, List.cons_append, List.append_nil, List.drop_zero, List.drop_succ_cons, List.drop_nil, List.take_zero, List.take_succ_cons, List.take_nil, cond_true, cond_false, Bool.and_self, Bool.and_true, and_self, and_true, true_and, if_true, bind_some', Nat.add_zero, Nat.zero_add, Nat.reduceAdd, Nat.reduceLeDiff, ne_eq, not_false_eq_true, Nat.add_eq_zero_iff, Nat.reduceEqDiff, one_ne_zero', zero_ne_one', nne1, nne2, nne3, Nat.add_right_cancel_iff, Nat.add_left_cancel_iff, Nat.le_refl, reduceCtorEq, bind_some', aBin_lss, aBin_leq, aBin_gtr, aBin_geq, aBin_eql, aBin_neq, aBin_add, aBin_sub, aBin_mul, aBin_seql, aBin_sneq, aBinb_eql, aBinb_neq, aUn_not, aUn_neg, aSlen_str, extr0, extr1, extr2]
    refine Ok.cnd (fun he => ?_) fun he => ?_
    · obtain ⟨T, _, t2, t3, _⟩ := hA.new.fin (st := st.new 8 [facV l[i]])
      refine Ok.givesL (hasString_ok t3 (by omega) l[i].frm) (mapO2 t2 rfl) (reloc_bool · _) fun m hm => ?_
      (simp only [retV_one, retV_two, retV_three, mkNew_agg, mkNew_zc, ld_top, ld_old, ld_setN, sto_top, sto_old, sto_setN, faddr_ptr, faddr_eptr, ld_eptr, new_m', new_n', setN_m', setN_n', st0_m', st0_n', put_m', put_n', AV.cells, AV.one, AV.stor, ldCells, setElem, splice, List.all_cons, List.all_nil, List.length_cons, List.length_nil, List.drop, List.take, List.head?_cons, List.getElem?_cons_zero, List.getElem?_cons_succ, List.set_cons_zero, List.nil_append, List.cons_append, List.append_nil, List.drop_zero, List.drop_succ_cons, List.drop_nil, List.take_zero, List.take_succ_cons, List.take_nil, cond_true, cond_false, Bool.and_self, Bool.and_true, and_self, and_true, true_and, if_true, bind_some', Nat.add_zero, Nat.zero_add, Nat.reduceAdd, Nat.reduceLeDiff, ne_eq, not_false_eq_true, Nat.add_eq_zero_iff, Nat.reduceEqDiff, one_ne_zero', zero_ne_one', nne1, nne2, nne3, Nat.add_right_cancel_iff, Nat.add_left_cancel_iff, Nat.le_refl, reduceCtorEq, bind_some', aBin_lss, aBin_leq, aBin_gtr, aBin_geq, aBin_eql, aBin_neq, aBin_add, aBin_sub, aBin_mul, aBin_seql, aBin_sneq, aBinb_eql, aBinb_neq, aUn_not, aUn_neg, aSlen_str, extr0, extr1, extr2])
      have hm' : st.n + 1 ≤ m := hm
      refine Ok.cndnb (fun hb => ?_) fun hb => ?_
      · refine Ok.pushS ((hA.new (k := 8) (xs := [facV l[i]])).setN hm) (show n ≤ m by omega) (by omega) fun w2 st2 k1 k2 k3 k4 k5 => ?_
        have k3' : m ≤ st2.n := k3
        have hw : ¬ isAt w st.m := fun hq => by have := hA.lt hq; omega
        have hst : ∀ g s f, aLoad g s st2 (.ptr st.m st.n 0 f) = ldCells g s ((facV l[i]).cells.drop f) := fun g s f => by
          have e : st2.H st.m = some ⟨st.n, 8, [facV l[i]]⟩ := by
            rw [k4 st.m (by simp only [setN_m, new_m]; omega) hw]; exact new_H _ _ _
          simp [aLoad, get_H e]
        have := second w2 st2 (by rw [nmAdd, if_neg he, if_neg (by rw [hb]; exact Bool.false_ne_true)]; exact k1) (Nat.le_trans hn (by omega)) hst
        simp only [hst, facV, retV_one, retV_two, retV_three, mkNew_agg, mkNew_zc, ld_top, ld_old, ld_setN, sto_top, sto_old, sto_setN, faddr_ptr, faddr_eptr, ld_eptr, new_m', new_n', setN_m', setN_n', st0_m', st0_n', put_m', put_n', AV.cells, AV.one, AV.stor, ldCells, setElem, splice, List.all_cons, List.all_nil, List.length_cons, List.length_nil, List.drop, List.take, List.head?_cons, List.getElem?_cons_zero, List.getElem?_cons_succ, List.set_cons_zero, List.nil_append, List.cons_append, List.append_nil, List.drop_zero, List.drop_succ_cons, List.drop_nil, List.take_zero, List.take_succ_cons, List.take_nil, cond_true, cond_false, Bool.and_self, Bool.and_true, and_self, and_true, true_and, if_true, bind_some', Nat.add_zero, Nat.zero_add, Nat.reduceAdd, Nat.reduceLeDiff, ne_eq, not_false_eq_true, Nat.add_eq_zero_iff, Nat.reduceEqDiff, one_ne_zero', zero_ne_one', nne1, nne2, nne3, Nat.add_right_cancel_iff, Nat.add_left_cancel_iff, Nat.le_refl, reduceCtorEq, bind_some', aBin_lss, aBin_leq, aBin_gtr, aBin_geq, aBin_eql, aBin_neq, aBin_add, aBin_sub, aBin_mul, aBin_seql, aBin_sneq, aBinb_eql, aBinb_neq, aUn_not, aUn_neg, aSlen_str, extr0, extr1, extr2]
        exact this
      · exact second w _ (by rw [nmAdd, if_neg he, if_pos hb]; exact hA.new.setN hm) (by simp only [setN_n]; omega) (fun g s f => by rw [ld_setN]; exact hld st g s f)
    · have he : l[i].frm = ⟨#[]⟩ := Decidable.not_not.1 he
      exact second w _ (by rw [nmAdd, if_pos he]; exact hA.new) (Nat.le_trans hn (Nat.le_succ _)) (fun g s f => hld st g s f)
  · rintro _ ⟨w, st, rfl, hA, hn⟩
    obtain ⟨T, t1, _, t2, t3⟩ := hA.fin
    rw [k_impl_NamesOf_1_0, t1]
    exact ⟨_, rfl, hn, t2, t3⟩

theorem IsName_impl_call (b : ByteArray) (hb : b.size ≤ 9223372036854775807) (n : Nat) : L.call i_impl_IsName [.str b] n = some (.bool (nameM b), n) := by
  rw [call_impl_IsName]
  simp only [aSlen_str, bind_some', aBin_lss, aBin_gtr, cnd_dec]
  by_cases h1 : (b.size : Int) < 1
  · rw [if_pos h1]
    have : ¬ (1 ≤ b.size ∧ b.size ≤ 8) := by omega
    simp only [nameM, this, decide_false, Bool.false_and, resTup_bool, bind_some', n_st0]
  rw [if_neg h1]
  by_cases h2 : (8 : Int) < b.size
  · rw [if_pos h2]
    have : ¬ (1 ≤ b.size ∧ b.size ≤ 8) := by omega
    simp only [nameM, this, decide_false, Bool.false_and, resTup_bool, bind_some', n_st0]
  rw [if_neg h2]
  have h3 : (1 ≤ b.size ∧ b.size ≤ 8) := by omega
  have A := loop_all (fun i => L.loop [0, 3] [2] b_impl_IsName_1 [.str b, .int .i64 i] (st0 n)) (nameAt b) b.size (.exit 0, [.undef], st0 n) (.ret, [.bool false], st0 n)
    (by
      rw [loop_impl_IsName_1]
      simp only [aSlen_str, bind_some', aBin_lss, cnd_dec, Int.lt_irrefl, if_false])
    (fun i hi => by
      rw [loop_impl_IsName_1]
      simp only [aSlen_str, bind_some', aBin_lss, aBin_geq, aBin_gtr, aBin_leq, aBin_eql, aBin_add, aUn_not, cnd_dec, cnd_ndec, aSidx_str hi]
      rw [if_pos (by omega), wrap64 (by omega) (by omega)]
      simp only [nameAt, byteAt_lt hi, cnd]
      generalize (b[i]).toNat = c
      simp only [decide_eq_true_eq, Bool.not_false]
      repeat' split
      all_goals first | rfl | omega)
    b.size 0 (by omega)
  rw [show ((0 : Nat) : Int) = 0 from rfl] at A
  rw [A]
  by_cases hA : allF (nameAt b) 0 b.size = true
  · rw [if_pos hA, bind_some', k_impl_IsName_1_0]
    simp only [nameM, hA, h3, resTup_bool, bind_some', n_st0, Bool.and_true, decide_true, and_self]
  · rw [if_neg hA, bind_some', k_impl_IsName_1_ret]
    simp only [nameM, hA, resTup_bool, bind_some', n_st0, Bool.and_false]

theorem IsPoseName_impl_call (b : ByteArray) (hb : b.size ≤ 9223372036854775807) (n : Nat) : L.call i_impl_IsPoseName [.str b] n = some (.bool (poseNameM b), n) := by
  rw [call_impl_IsPoseName, call_same (plain1 (plain_str _)) (IsName_impl_call b hb _)]
  simp only [bind_some', cnd_bool]
  by_cases hn : nameM b = true
  · have h0 : 0 < b.size := by
      simp only [nameM, Bool.and_eq_true, decide_eq_true_iff] at hn; omega
    have e := aSidx_str (k := .i64) h0
    rw [show ((0 : Nat) : Int) = 0 from rfl] at e
    rw [if_pos hn, e]
    simp only [bind_some', aBin_eql, resTup_bool, n_st0, poseNameM, hn, byteAt_lt h0, Bool.true_and]
    congr 4
    simp only [eq_iff_iff]; omega
  · rw [if_neg hn]
    simp only [bind_some', resTup_bool, n_st0, poseNameM, hn, Bool.false_and]
theorem cl_impl_IsPoseName (b : ByteArray) (hb : b.size ≤ 9223372036854775807) (st : St) : clV L i_impl_IsPoseName 0 [.str b] st = some (.bool (poseNameM b), st) :=
  call_same (plain1 (plain_str _)) (IsPoseName_impl_call b hb _)

theorem IsLandmarkName_impl_call (b : ByteArray) (hb : b.size ≤ 9223372036854775807) (n : Nat) : L.call i_impl_IsLandmarkName [.str b] n = some (.bool (landNameM b), n) := by
  rw [call_impl_IsLandmarkName, call_same (plain1 (plain_str _)) (IsName_impl_call b hb _)]
  simp only [bind_some', cnd_bool]
  by_cases hn : nameM b = true
  · have h0 : 0 < b.size := by
      simp only [nameM, Bool.and_eq_true, decide_eq_true_iff] at hn; omega
    have e := aSidx_str (k := .i64) h0
    rw [show ((0 : Nat) : Int) = 0 from rfl] at e
    rw [if_pos hn, e]
    simp only [bind_some', aBin_eql, resTup_bool, n_st0, landNameM, hn, byteAt_lt h0, Bool.true_and]
    congr 4
    simp only [eq_iff_iff]; omega
  · rw [if_neg hn]
    simp only [bind_some', resTup_bool, n_st0, landNameM, hn, Bool.false_and]
theorem cl_impl_IsLandmarkName (b : ByteArray) (hb : b.size ≤ 9223372036854775807) (st : St) : clV L i_impl_IsLandmarkName 0 [.str b] st = some (.bool (landNameM b), st) :=
  call_same (plain1 (plain_str _)) (IsLandmarkName_impl_call b hb _)

theorem IsPoseName_g_impl (b : ByteArray) (hb : b.size ≤ 1048576) : Gives i_impl_IsPoseName [.str b] (.bool (poseNameM b)) := Gives.of (IsPoseName_impl_call b (by omega))
theorem IsLandmarkName_g_impl (b : ByteArray) (hb : b.size ≤ 1048576) : Gives i_impl_IsLandmarkName [.str b] (.bool (landNameM b)) := Gives.of (IsLandmarkName_impl_call b (by omega))
theorem IsValidFactor_impl (f : Fac) (hf : f.frm.size ≤ 1048576) (ht : f.to.size ≤ 1048576) : Gives i_impl_IsValidFactor [facV f] (.bool (facOk f)) := by
  intro n
  rw [call_impl_IsValidFactor]
  simp only [facV, retV_one, retV_two, retV_three, mkNew_agg, mkNew_zc, ld_top, ld_old, ld_setN, sto_top, sto_old, sto_setN, faddr_ptr, faddr_eptr, ld_eptr, new_m', new_n', setN_m', setN_n', st0_m', st0_n', put_m', put_n', AV.cells, AV.one, AV.stor, ldCells, setElem, splice, List.all_cons, List.all_nil, List.length_cons, List.length_nil, List.drop, List.take, List.head?_cons, List.getElem?_cons_zero, List.getElem?_cons_succ, List.set_cons_zero, List.nil_append, List.cons_append, List.append_nil, List.drop_zero, List.drop_succ_cons, List.drop_nil, List.take_zero, List.take_succ_cons, List.take_nil, cond_true, cond_false, Bool.and_self, Bool.and_true, and_self, and_true, true_and, if_true, bind_some', Nat.add_zero, Nat.zero_add, Nat.reduceAdd, Nat.reduceLeDiff, ne_eq, not_false_eq_true, Nat.add_eq_zero_iff, Nat.reduceEqDiff, one_ne_zero', zero_ne_one', nne1, nne2, nne3, Nat.add_right_cancel_iff, Nat.add_left_cancel_iff, Nat.le_refl, reduceCtorEq, bind_some', aBin_lss, aBin_leq, aBin_gtr, aBin_geq, aBin_eql, aBin_neq, aBin_add, aBin_sub, aBin_mul, aBin_seql, aBin_sneq, aBinb_eql, aBinb_neq, aUn_not, aUn_neg, aSlen_str, extr0, extr1, extr2]
  repeat' first
    | (refine Ok.cnd (fun h => ?_) fun h => ?_) | (refine Ok.cndn (fun h => ?_) fun h => ?_) | (refine Ok.cndb (fun h => ?_) fun h => ?_) | (refine Ok.cndnb (fun h => ?_) fun h => ?_)
    | (refine Ok.gives (IsValidPose_impl f.p) (pB rfl) fun m hm => ?_; (simp only [retV_one, retV_two, retV_three, mkNew_agg, mkNew_zc, ld_top, ld_old, ld_setN, sto_top, sto_old, sto_setN, faddr_ptr, faddr_eptr, ld_eptr, new_m', new_n', setN_m', setN_n', st0_m', st0_n', put_m', put_n', AV.cells, AV.one, AV.stor, ldCells, setElem, splice, List.all_cons, List.all_nil, List.length_cons, List.length_nil, List.drop, List.take, List.head?_cons, List.getElem?_cons_zero, List.getElem?_cons_succ, List.set_cons_zero, List.nil_append, List.cons_append, List.append_nil, List.drop_zero, List.drop_succ_cons, List.drop_nil, List.take_zero, List.take_succ_cons, List.take_nil, cond_true, cond_false, Bool.and_self, Bool.and_true, and_self, and_true, true_and, if_true, bind_some', Nat.add_zero, Nat.zero_add, Nat.reduceAdd, Nat.reduceLeDiff, ne_eq, not_false_eq_true, Nat.add_eq_zero_iff, Nat.reduceEqDiff, one_ne_zero', zero_ne_one', nne1, nne2, nne3, Nat.add_right_cancel_iff, Nat.add_left_cancel_iff, Nat.le_refl, reduceCtorEq, bind_some', aBin_lss, aBin_leq, aBin_gtr, aBin_geq, aBin_eql, aBin_neq, aBin_add, aBin_sub, aBin_mul, aBin_seql, aBin_sneq, aBinb_eql, aBinb_neq, aUn_not, aUn_neg, aSlen_str, extr0, extr1, extr2]))
    | (refine Ok.gives (IsPoseName_g_impl _ hf) (pB rfl) fun m hm => ?_; (simp only [retV_one, retV_two, retV_three, mkNew_agg, mkNew_zc, ld_top, ld_old, ld_setN, sto_top, sto_old, sto_setN, faddr_ptr, faddr_eptr, ld_eptr, new_m', new_n', setN_m', setN_n', st0_m', st0_n', put_m', put_n', AV.cells, AV.one, AV.stor, ldCells, setElem, splice, List.all_cons, List.all_nil, List.length_cons, List.length_nil, List.drop, List.take, List.head?_cons, List.getElem?_cons_zero, List.getElem?_cons_succ, List.set_cons_zero, List.nil_append, List.cons_append, List.append_nil, List.drop_zero, List.drop_succ_cons, List.drop_nil, List.take_zero, List.take_succ_cons, List.take_nil, cond_true, cond_false, Bool.and_self, Bool.and_true, and_self, and_true, true_and, if_true, bind_some', Nat.add_zero, Nat.zero_add, Nat.reduceAdd, Nat.reduceLeDiff, ne_eq, not_false_eq_true, Nat.add_eq_zero_iff, Nat.reduceEqDiff, one_ne_zero', zero_ne_one', nne1, nne2, nne3, Nat.add_right_cancel_iff, Nat.add_left_cancel_iff, Nat.le_refl, reduceCtorEq, bind_some', aBin_lss, aBin_leq, aBin_gtr, aBin_geq, aBin_eql, aBin_neq, aBin_add, aBin_sub, aBin_mul, aBin_seql, aBin_sneq, aBinb_eql, aBinb_neq, aUn_not, aUn_neg, aSlen_str, extr0, extr1, extr2]))
    | (refine Ok.gives (IsPoseName_g_impl _ ht) (pB rfl) fun m hm => ?_; (simp only [retV_one, retV_two, retV_three, mkNew_agg, mkNew_zc, ld_top, ld_old, ld_setN, sto_top, sto_old, sto_setN, faddr_ptr, faddr_eptr, ld_eptr, new_m', new_n', setN_m', setN_n', st0_m', st0_n', put_m', put_n', AV.cells, AV.one, AV.stor, ldCells, setElem, splice, List.all_cons, List.all_nil, List.length_cons, List.length_nil, List.drop, List.take, List.head?_cons, List.getElem?_cons_zero, List.getElem?_cons_succ, List.set_cons_zero, List.nil_append, List.cons_append, List.append_nil, List.drop_zero, List.drop_succ_cons, List.drop_nil, List.take_zero, List.take_succ_cons, List.take_nil, cond_true, cond_false, Bool.and_self, Bool.and_true, and_self, and_true, true_and, if_true, bind_some', Nat.add_zero, Nat.zero_add, Nat.reduceAdd, Nat.reduceLeDiff, ne_eq, not_false_eq_true, Nat.add_eq_zero_iff, Nat.reduceEqDiff, one_ne_zero', zero_ne_one', nne1, nne2, nne3, Nat.add_right_cancel_iff, Nat.add_left_cancel_iff, Nat.le_refl, reduceCtorEq, bind_some', aBin_lss, aBin_leq, aBin_gtr, aBin_geq, aBin_eql, aBin_neq, aBin_add, aBin_sub, aBin_mul, aBin_seql, aBin_sneq, aBinb_eql, aBinb_neq, aUn_not, aUn_neg, aSlen_str, extr0, extr1, extr2]))
    | (refine Ok.gives (IsLandmarkName_g_impl _ ht) (pB rfl) fun m hm => ?_; (simp only [retV_one, retV_two, retV_three, mkNew_agg, mkNew_zc, ld_top, ld_old, ld_setN, sto_top, sto_old, sto_setN, faddr_ptr, faddr_eptr, ld_eptr, new_m', new_n', setN_m', setN_n', st0_m', st0_n', put_m', put_n', AV.cells, AV.one, AV.stor, ldCells, setElem, splice, List.all_cons, List.all_nil, List.length_cons, List.length_nil, List.drop, List.take, List.head?_cons, List.getElem?_cons_zero, List.getElem?_cons_succ, List.set_cons_zero, List.nil_append, List.cons_append, List.append_nil, List.drop_zero, List.drop_succ_cons, List.drop_nil, List.take_zero, List.take_succ_cons, List.take_nil, cond_true, cond_false, Bool.and_self, Bool.and_true, and_self, and_true, true_and, if_true, bind_some', Nat.add_zero, Nat.zero_add, Nat.reduceAdd, Nat.reduceLeDiff, ne_eq, not_false_eq_true, Nat.add_eq_zero_iff, Nat.reduceEqDiff, one_ne_zero', zero_ne_one', nne1, nne2, nne3, Nat.add_right_cancel_iff, Nat.add_left_cancel_iff, Nat.le_refl, reduceCtorEq, bind_some', aBin_lss, aBin_leq, aBin_gtr, aBin_geq, aBin_eql, aBin_neq, aBin_add, aBin_sub, aBin_mul, aBin_seql, aBin_sneq, aBinb_eql, aBinb_neq, aUn_not, aUn_neg, aSlen_str, extr0, extr1, extr2]))
  all_goals refine Ok.retb (by (try simp only [new_n', setN_n', st0_n', put_n'] at *); first | omega | exact Nat.le_succ _ | exact Nat.le_refl _) ?_
  all_goals grind [facOk, poseOk]

theorem IsFactorList_impl {v : AV} {l : List Fac} (h : FS v l) (s : sm_FactorS l) : Gives i_impl_IsFactorList [v] (.bool (flistM l)) := by
  intro n
  rw [call_impl_IsFactorList]
  have hl := s.1
  simp only [SlOf.len h, bind_some', aBin_lss, aBin_leq, aBin_gtr, aBin_geq, aBin_eql, aBin_neq, aBin_add, aBin_sub, aBin_mul, aBin_seql, aBin_sneq, aBinb_eql, aBinb_neq, aUn_not, aUn_neg, aSlen_str, extr0, extr1, extr2]
  refine Ok.cnd (fun h40 => ?_) fun h40 => ?_
  · refine Ok.retb (by (try simp only [new_n', setN_n', st0_n', put_n'] at *); first | omega | exact Nat.le_succ _ | exact Nat.le_refl _) ?_
    have : ¬ l.length ≤ 40 := by omega
    simp [flistM, this]
  refine Ok.bind (P := fun r => ∃ st, n ≤ st.n ∧ ((r = (.exit 0, [v, .undef], st) ∧ allF (facAt l) 0 l.length = true) ∨ (r = (.ret, [v, .bool false], st) ∧ allF (facAt l) 0 l.length = false)))
    (Ok.loop (σ := St) (Lp := fun i st => L.loop [0, 8, 9, 10] [0, 2] b_impl_IsFactorList_1 [v, v, .int .i64 l.length, .int .i64 i] st) (I := fun i st => n ≤ st.n ∧ allF (facAt l) 0 i = true) l.length ?_ ?_ l.length 0 (st0 n) (by omega) ⟨Nat.le_refl _, rfl⟩) ?_
  · rintro st ⟨hn, hA⟩
    rw [loop_impl_IsFactorList_1]
    simp only [bind_some', aBin_lss, cnd_dec, Int.lt_irrefl, if_false]
    exact ⟨_, rfl, st, hn, .inl ⟨rfl, hA⟩⟩
  · rintro i st hi ⟨hn, hA⟩ ih
    obtain ⟨p, q1, _, q2⟩ := FS.get (st := st) h (List.getElem?_eq_getElem hi) .i64
    have hf := s.2 l[i] (List.getElem_mem hi)
    have bad : facAt l i = false → allF (facAt l) 0 l.length = false := fun hb => by
      rw [← Bool.not_eq_true]; intro hx
      have := allF_iff.1 hx i (Nat.zero_le _) (by omega)
      rw [hb] at this; exact Bool.false_ne_true this
    have good : facAt l i = true → allF (facAt l) 0 (i + 1) = true := fun hb => by
      rw [allF_iff]; intro j _ hj
      by_cases e : j = i
      · subst e; exact hb
      · exact allF_iff.1 hA j (Nat.zero_le _) (by omega)
    rw [loop_impl_IsFactorList_1]
    simp only [bind_some', aBin_lss, aBin_leq, aBin_gtr, aBin_geq, aBin_eql, aBin_neq, aBin_add, aBin_sub, aBin_mul, aBin_seql, aBin_sneq, aBinb_eql, aBinb_neq, aUn_not, aUn_neg, aSlen_str, extr0, extr1, extr2, q1, q2]
    refine Ok.cnd (fun _ => ?_) fun hf => absurd hf (by omega)
    simp only [facV, retV_one, retV_two, retV_three, mkNew_agg, mkNew_zc, ld_top, ld_old, ld_setN, sto_top, sto_old, sto_setN, faddr_ptr, faddr_eptr, ld_eptr, new_m', new_n', setN_m', setN_n', st0_m', st0_n', put_m', put_n', AV.cells, AV.one, AV.stor, ldCells, setElem, splice, List.all_cons, List.all_nil, List.length_cons, List.length_nil, List.drop, List.take, List.head?_cons, List.getElem?_cons_zero, List.getElem?_cons_succ, List.set_cons_zero, List.nil_append, List.cons_append, List.append_nil, List.drop_zero, List.drop_succ_cons, List.drop_nil, List.take_zero, List.take_succ_cons, List.take_nil, cond_true, cond_false, Bool.and_self, Bool.and_true, and_self, and_true, true_and, if_true, bind_some', Nat.add_zero, Nat.zero_add, Nat.reduceAdd, Nat.reduceLeDiff, ne_eq, not_false_eq_true, Nat.add_eq_zero_iff, Nat.reduceEqDiff, one_ne_zero', zero_ne_one', nne1, nne2, nne3, Nat.add_right_cancel_iff, Nat.add_left_cancel_iff, Nat.le_refl, reduceCtorEq, bind_some', aBin_lss, aBin_leq, aBin_gtr, aBin_geq, aBin_eql, aBin_neq, aBin_add, aBin_sub, aBin_mul, aBin_seql, aBin_sneq, aBinb_eql, aBinb_neq, aUn_not, aUn_neg, aSlen_str, extr0, extr1, extr2]
    refine Ok.gives (IsValidFactor_impl l[i] hf.2.2.1 hf.2.2.2.1) (pB rfl) fun m hm => ?_
    have hm' : st.n + 1 ≤ m := hm
    simp only [aUn_not, bind_some']
    refine Ok.cndnb (fun hv => ?_) fun hv => ?_
    · exact ⟨_, rfl, _, (show n ≤ m by omega), .inr ⟨rfl, bad (by simp [facAt, List.getElem?_eq_getElem hi, hv])⟩⟩
    refine Ok.cnd (fun h0 => ?_) fun h0 => ?_
    · have e1 : (i : Int) - 1 = ((i - 1 : Nat) : Int) := by omega
      obtain ⟨p2, r1, r2, _⟩ := FS.get (st := st) h (List.getElem?_eq_getElem (by omega : i - 1 < l.length)) .i64
      rw [wrap_i (x := (i : Int) - 1) (by omega), wrap_i (x := (i : Int) + 1) (by omega), e1, r1]
      simp only [r2, facV, retV_one, retV_two, retV_three, mkNew_agg, mkNew_zc, ld_top, ld_old, ld_setN, sto_top, sto_old, sto_setN, faddr_ptr, faddr_eptr, ld_eptr, new_m', new_n', setN_m', setN_n', st0_m', st0_n', put_m', put_n', AV.cells, AV.one, AV.stor, ldCells, setElem, splice, List.all_cons, List.all_nil, List.length_cons, List.length_nil, List.drop, List.take, List.head?_cons, List.getElem?_cons_zero, List.getElem?_cons_succ, List.set_cons_zero, List.nil_append, List.cons_append, List.append_nil, List.drop_zero, List.drop_succ_cons, List.drop_nil, List.take_zero, List.take_succ_cons, List.take_nil, cond_true, cond_false, Bool.and_self, Bool.and_true, and_self, and_true, true_and, if_true, bind_some', Nat.add_zero, Nat.zero_add, Nat.reduceAdd, Nat.reduceLeDiff, ne_eq, not_false_eq_true, Nat.add_eq_zero_iff, Nat.reduceEqDiff, one_ne_zero', zero_ne_one', nne1, nne2, nne3, Nat.add_right_cancel_iff, Nat.add_left_cancel_iff, Nat.le_refl, reduceCtorEq, bind_some', aBin_lss, aBin_leq, aBin_gtr, aBin_geq, aBin_eql, aBin_neq, aBin_add, aBin_sub, aBin_mul, aBin_seql, aBin_sneq, aBinb_eql, aBinb_neq, aUn_not, aUn_neg, aSlen_str, extr0, extr1, extr2]
      refine Ok.cnd (fun hlt => ?_) fun hlt => ?_
      · exact ⟨_, rfl, _, (show n ≤ m by omega), .inr ⟨rfl, bad (by
          have : ¬ i = 0 := by omega
          simp [facAt, List.getElem?_eq_getElem hi, List.getElem?_eq_getElem (by omega : i - 1 < l.length), hv, this]; omega)⟩⟩
      · refine ih _ ⟨(show n ≤ m by omega), good ?_⟩
        have : l[i - 1].id < l[i].id := by omega
        simp [facAt, List.getElem?_eq_getElem hi, List.getElem?_eq_getElem (by omega : i - 1 < l.length), hv, this]
    · rw [wrap_i (x := (i : Int) + 1) (by omega)]
      refine ih _ ⟨(show n ≤ m by omega), good ?_⟩
      have : i = 0 := by omega
      subst this
      simp [facAt, List.getElem?_eq_getElem hi, hv]
  · rintro _ ⟨st, hn, ⟨rfl, hA⟩ | ⟨rfl, hA⟩⟩
    · rw [k_impl_IsFactorList_1_0]
      refine Ok.call (NamesOf_impl h s.1 _) (plain1 h.plain) fun r n2 hp => ?_
      obtain ⟨hn2, h2, _⟩ : st.n ≤ n2 ∧ SS r (namesM l) ∧ _ := hp
      simp only [SlOf.len h2, bind_some', aBin_lss, aBin_leq, aBin_gtr, aBin_geq, aBin_eql, aBin_neq, aBin_add, aBin_sub, aBin_mul, aBin_seql, aBin_sneq, aBinb_eql, aBinb_neq, aUn_not, aUn_neg, aSlen_str, extr0, extr1, extr2]
      refine Ok.retb (show n ≤ n2 by omega) ?_
      have : l.length ≤ 40 := by omega
      simp [flistM, hA, this]; omega
    · rw [k_impl_IsFactorList_1_ret]
      refine Ok.retb (by (try simp only [new_n', setN_n', st0_n', put_n'] at *); first | omega | exact Nat.le_succ _ | exact Nat.le_refl _) ?_
      simp [flistM, hA]

theorem DeadReckoning_impl {v : AV} {l : List Fac} (h : FS v l) (s : sm_FactorS l) (n : Nat) : Ok (L.call i_impl_DeadReckoning [v] n) fun p => n ≤ p.2 ∧ ∃ T U, p.1 = .tup [T, U] ∧ PosS T (deadM l).1 ∧ BoolSl U (deadM l).2 := by
  rw [call_impl_DeadReckoning]
  refine Ok.gives (IsFactorList_impl h s) (plain1 h.plain) fun n1 h1 => ?_
  simp only [aUn_not, bind_some']
  refine Ok.cndnb (fun hf => ?_) fun hf => ?_
  · refine ⟨_, rfl, h1, .nils, .nils, rfl, ?_⟩
    simp only [deadM, hf, Bool.false_eq_true, if_false]
    exact ⟨⟨[], .inl ⟨rfl, rfl⟩, rfl⟩, ⟨[], .inl ⟨rfl, rfl⟩, rfl⟩⟩
  refine Ok.call (NamesOf_impl h s.1 _) (plain1 h.plain) fun r n2 hp => ?_
  obtain ⟨hn2, hs, _⟩ : n1 ≤ n2 ∧ SS r (namesM l) ∧ _ := hp
  have h1' : n ≤ n1 := h1
  have hnl := names_length l
  have hl := s.1
  simp only [SlOf.len hs, bind_some']
  rw [mkMake_ok (s := 3) (z := zc_iii) (by omega) rfl rfl (by omega), mkMake_ok (s := 1) (z := .bool false) (by omega) rfl rfl (by omega)]
  have key : ∀ (k : Nat) (st : St) (va vk : AV) (ps : List Pos) (kn : List Bool), kn.count false ≤ k → DR st va vk ps kn → ps.length = (namesM l).length → kn.length = (namesM l).length → n ≤ st.n →
      Ok ((L.loop [0, 4, 5, 6] [2, 3, 5, 6] b_impl_DeadReckoning_1 [v, r, va, vk] st).bind k_impl_DeadReckoning_1) fun p => n ≤ p.2 ∧ ∃ T U, p.1 = .tup [T, U] ∧ PosS T (deadF (namesM l) l k ps kn).1 ∧ BoolSl U (deadF (namesM l) l k ps kn).2 := by
    intro k
    induction k with
    | zero =>
      intro st va vk ps kn hk hD hp hkl hn
      rw [loop_impl_DeadReckoning_1]
      obtain ⟨⟨b, S⟩, e, g1, g2, g3⟩ := poseStep_inl h hf hs hD hp hkl
      rw [e, bind_some']
      cases hr : reckM (namesM l) l ps kn with
      | none =>
        rw [hr] at g3
        obtain ⟨rfl, hD'⟩ := g3
        obtain ⟨T, U, t1, t2, t3, _⟩ := hD'.fin
        simp only [Go.Proofs.YtbomeeiaeohbpaaFw.cnd, bind_some', k_impl_DeadReckoning_1_0, t1, deadF]
        exact ⟨_, rfl, Nat.le_trans hn g1, T, U, rfl, t2, t3⟩
      | some x =>
        obtain ⟨a1, a2⟩ := stepAt_lt rfl hf (i := x.1) (q := x.2) hr
        have := count_set (kn := kn) (i := x.1) (by omega) a2; omega
    | succ k ih =>
      intro st va vk ps kn hk hD hp hkl hn
      rw [loop_impl_DeadReckoning_1]
      obtain ⟨⟨b, S⟩, e, g1, g2, g3⟩ := poseStep_inl h hf hs hD hp hkl
      rw [e, bind_some']
      cases hr : reckM (namesM l) l ps kn with
      | none =>
        rw [hr] at g3
        obtain ⟨rfl, hD'⟩ := g3
        obtain ⟨T, U, t1, t2, t3, _⟩ := hD'.fin
        simp only [Go.Proofs.YtbomeeiaeohbpaaFw.cnd, bind_some', k_impl_DeadReckoning_1_0, t1, deadF, hr]
        exact ⟨_, rfl, Nat.le_trans hn g1, T, U, rfl, t2, t3⟩
      | some x =>
        obtain ⟨a1, a2⟩ := stepAt_lt rfl hf (i := x.1) (q := x.2) hr
        have hc := count_set (kn := kn) (i := x.1) (by omega) a2
        rw [hr] at g3
        obtain ⟨rfl, hD'⟩ := g3
        simp only [Go.Proofs.YtbomeeiaeohbpaaFw.cnd, deadF, hr]
        exact ih S va vk _ _ (by omega) hD' (by simpa using hp) (by simpa using hkl) (Nat.le_trans hn g1)
  have hfin := key (namesM l).length (((((st0 n).setN n1).setN n2).new 3 (List.replicate (namesM l).length zc_iii)).new 1 (List.replicate (namesM l).length (.bool false))) _ _ (List.replicate (namesM l).length pose0) (List.replicate (namesM l).length false) (by simp)
    ⟨((st0 n).setN n1).m, n2, ((st0 n).setN n1).m + 1, n2 + 1, ⟨rfl, ?_⟩, ⟨rfl, ?_⟩, ?_, ?_, by omega⟩ (by simp) (by simp) ?_
  · simp only [List.length_map, List.length_replicate] at hfin
    refine (Ok.of_eq hfin rfl).mono fun p hp => ?_
    simpa only [deadM, hf, if_true] using hp
  · rw [new_H_ne (by simp only [new_m, setN_m, st0_m, ne_eq]; omega)]
    rw [List.map_replicate]; exact new_H _ _ _
  · rw [List.map_replicate]; exact new_H _ _ _
  · simp only [new_m, setN_m, st0_m]; omega
  · simp only [new_m, setN_m, st0_m]; omega
  · simp only [new_n, setN_n]; omega

theorem KnownPose_impl {v : AV} {l : List Fac} (h : FS v l) (s : sm_FactorS l) (x : ByteArray) : Gives i_impl_KnownPose [v, .str x] (.tup [poseV (knownM l x).1, .bool (knownM l x).2]) := by
  intro n
  rw [call_impl_KnownPose]
  have hnl := names_length l
  have hl := s.1
  obtain ⟨d1, d2⟩ := deadM_len l
  simp only [retV_one, retV_two, retV_three, mkNew_agg, mkNew_zc, ld_top, ld_old, ld_setN, sto_top, setN_setN, faddr_ptr, faddr_eptr, ld_eptr, new_m', new_n', setN_m', setN_n', st0_m', st0_n', put_m', put_n', AV.cells, AV.one, AV.stor, ldCells, setElem, splice, List.all_cons, List.all_nil, List.length_cons, List.length_nil, List.drop, List.take, List.head?_cons, List.getElem?_cons_zero, List.getElem?_cons_succ, List.set_cons_zero, List.nil_append, List.cons_append, List.append_nil, List.drop_zero, List.drop_succ_cons, List.drop_nil, List.take_zero, List.take_succ_cons, List.take_nil, cond_true, cond_false, Bool.and_self, Bool.and_true, and_self, and_true, true_and, if_true, bind_some', Nat.add_zero, Nat.zero_add, Nat.reduceAdd, Nat.reduceLeDiff, ne_eq, not_false_eq_true, Nat.add_eq_zero_iff, Nat.reduceEqDiff, one_ne_zero', zero_ne_one', nne1, nne2, nne3, Nat.add_right_cancel_iff, Nat.add_left_cancel_iff, Nat.le_refl, reduceCtorEq]
  refine Ok.call (DeadReckoning_impl h s _) (plain1 h.plain) fun r n1 hp => ?_
  obtain ⟨hn1, T, U, rfl, hT, hU⟩ := hp
  have hn1' : n + 1 ≤ n1 := hn1
  simp only [retV_one, retV_two, retV_three, mkNew_agg, mkNew_zc, ld_top, ld_old, ld_setN, sto_top, setN_setN, faddr_ptr, faddr_eptr, ld_eptr, new_m', new_n', setN_m', setN_n', st0_m', st0_n', put_m', put_n', AV.cells, AV.one, AV.stor, ldCells, setElem, splice, List.all_cons, List.all_nil, List.length_cons, List.length_nil, List.drop, List.take, List.head?_cons, List.getElem?_cons_zero, List.getElem?_cons_succ, List.set_cons_zero, List.nil_append, List.cons_append, List.append_nil, List.drop_zero, List.drop_succ_cons, List.drop_nil, List.take_zero, List.take_succ_cons, List.take_nil, cond_true, cond_false, Bool.and_self, Bool.and_true, and_self, and_true, true_and, if_true, bind_some', Nat.add_zero, Nat.zero_add, Nat.reduceAdd, Nat.reduceLeDiff, ne_eq, not_false_eq_true, Nat.add_eq_zero_iff, Nat.reduceEqDiff, one_ne_zero', zero_ne_one', nne1, nne2, nne3, Nat.add_right_cancel_iff, Nat.add_left_cancel_iff, Nat.le_refl, reduceCtorEq, bind_some', aBin_lss, aBin_leq, aBin_gtr, aBin_geq, aBin_eql, aBin_neq, aBin_add, aBin_sub, aBin_mul, aBin_seql, aBin_sneq, aBinb_eql, aBinb_neq, aUn_not, aUn_neg, aSlen_str, extr0, extr1, extr2]
  refine Ok.call (NamesOf_impl h s.1 _) (plain1 h.plain) fun r n2 hp => ?_
  obtain ⟨hn2, hs, _⟩ : n1 ≤ n2 ∧ SS r (namesM l) ∧ _ := hp
  simp only [retV_one, retV_two, retV_three, mkNew_agg, mkNew_zc, ld_top, ld_old, ld_setN, sto_top, setN_setN, faddr_ptr, faddr_eptr, ld_eptr, new_m', new_n', setN_m', setN_n', st0_m', st0_n', put_m', put_n', AV.cells, AV.one, AV.stor, ldCells, setElem, splice, List.all_cons, List.all_nil, List.length_cons, List.length_nil, List.drop, List.take, List.head?_cons, List.getElem?_cons_zero, List.getElem?_cons_succ, List.set_cons_zero, List.nil_append, List.cons_append, List.append_nil, List.drop_zero, List.drop_succ_cons, List.drop_nil, List.take_zero, List.take_succ_cons, List.take_nil, cond_true, cond_false, Bool.and_self, Bool.and_true, and_self, and_true, true_and, if_true, bind_some', Nat.add_zero, Nat.zero_add, Nat.reduceAdd, Nat.reduceLeDiff, ne_eq, not_false_eq_true, Nat.add_eq_zero_iff, Nat.reduceEqDiff, one_ne_zero', zero_ne_one', nne1, nne2, nne3, Nat.add_right_cancel_iff, Nat.add_left_cancel_iff, Nat.le_refl, reduceCtorEq]
  refine Ok.gives (nameIndex_ok hs (by omega) x) (plain2 hs.plain (plain_str _)) fun n3 hn3 => ?_
  have hn3' : n2 ≤ n3 := hn3
  have hr := fidx_range (fun y => decide (y = x)) (namesM l)
  simp only [retV_one, retV_two, retV_three, mkNew_agg, mkNew_zc, ld_top, ld_old, ld_setN, sto_top, sto_old, sto_setN, faddr_ptr, faddr_eptr, ld_eptr, new_m', new_n', setN_m', setN_n', st0_m', st0_n', put_m', put_n', AV.cells, AV.one, AV.stor, ldCells, setElem, splice, List.all_cons, List.all_nil, List.length_cons, List.length_nil, List.drop, List.take, List.head?_cons, List.getElem?_cons_zero, List.getElem?_cons_succ, List.set_cons_zero, List.nil_append, List.cons_append, List.append_nil, List.drop_zero, List.drop_succ_cons, List.drop_nil, List.take_zero, List.take_succ_cons, List.take_nil, cond_true, cond_false, Bool.and_self, Bool.and_true, and_self, and_true, true_and, if_true, bind_some', Nat.add_zero, Nat.zero_add, Nat.reduceAdd, Nat.reduceLeDiff, ne_eq, not_false_eq_true, Nat.add_eq_zero_iff, Nat.reduceEqDiff, one_ne_zero', zero_ne_one', nne1, nne2, nne3, Nat.add_right_cancel_iff, Nat.add_left_cancel_iff, Nat.le_refl, reduceCtorEq, bind_some', aBin_lss, aBin_leq, aBin_gtr, aBin_geq, aBin_eql, aBin_neq, aBin_add, aBin_sub, aBin_mul, aBin_seql, aBin_sneq, aBinb_eql, aBinb_neq, aUn_not, aUn_neg, aSlen_str, extr0, extr1, extr2]
  refine Ok.cnd (fun h0 => ?_) fun h0 => ?_
  · refine Ok.ret (by first | rfl | (simp only [retV_one, retV_two, retV_three]; rfl)) (by (try simp only [new_n', setN_n', st0_n', put_n'] at *); first | omega | exact Nat.le_succ _ | exact Nat.le_refl _) ?_
    simp only [knownM, h0, true_or, if_true, pose0, poseV]
  simp only [SlOf.len hT, bind_some', aBin_lss, aBin_leq, aBin_gtr, aBin_geq, aBin_eql, aBin_neq, aBin_add, aBin_sub, aBin_mul, aBin_seql, aBin_sneq, aBinb_eql, aBinb_neq, aUn_not, aUn_neg, aSlen_str, extr0, extr1, extr2]
  refine Ok.cnd (fun h1 => ?_) fun h1 => ?_
  · refine Ok.ret (by first | rfl | (simp only [retV_one, retV_two, retV_three]; rfl)) (by (try simp only [new_n', setN_n', st0_n', put_n'] at *); first | omega | exact Nat.le_succ _ | exact Nat.le_refl _) ?_
    simp only [knownM, h1, or_true, if_true, pose0, poseV]
  obtain ⟨i, hi⟩ : ∃ i : Nat, fidx (fun y => decide (y = x)) (namesM l) = (i : Int) := ⟨(fidx (fun y => decide (y = x)) (namesM l)).toNat, by omega⟩
  have hii : ¬ ((i : Int) < 0 ∨ ((deadM l).1.length : Int) ≤ (i : Int)) := by rw [← hi]; omega
  have hk : knownM l x = if kb (deadM l).2 i = true then (pa (deadM l).1 i, true) else (pose0, false) := by
    simp only [knownM, hi]; rw [if_neg hii]; rfl
  obtain ⟨q, q1, q2⟩ := hU.at (st := (((st0 n).new 3 [AV.agg [AV.int .i64 0, AV.int .i64 0, AV.int .i64 0]]).setN n3)) (i := i) (by omega) .i64
  obtain ⟨q', q1', q2'⟩ := hT.at (st := (((st0 n).new 3 [AV.agg [AV.int .i64 0, AV.int .i64 0, AV.int .i64 0]]).setN n3)) (i := i) (by omega) .i64
  simp only [ld_eptr] at q2 q2'
  rw [hi]
  simp only [q1, q1', ld_eptr, q2, q2', bind_some', aBin_lss, aBin_leq, aBin_gtr, aBin_geq, aBin_eql, aBin_neq, aBin_add, aBin_sub, aBin_mul, aBin_seql, aBin_sneq, aBinb_eql, aBinb_neq, aUn_not, aUn_neg, aSlen_str, extr0, extr1, extr2]
  refine Ok.cndnb (fun hb => ?_) fun hb => ?_
  · refine Ok.ret (by first | rfl | (simp only [retV_one, retV_two, retV_three]; rfl)) (by (try simp only [new_n', setN_n', st0_n', put_n'] at *); first | omega | exact Nat.le_succ _ | exact Nat.le_refl _) ?_
    rw [hk, hb]; rfl
  · (try simp only [poseV, retV_one, retV_two, retV_three, mkNew_agg, mkNew_zc, ld_top, ld_old, ld_setN, sto_top, sto_old, sto_setN, faddr_ptr, faddr_eptr, ld_eptr, new_m', new_n', setN_m', setN_n', st0_m', st0_n', put_m', put_n', AV.cells, AV.one, AV.stor, ldCells, setElem, splice, List.all_cons, List.all_nil, List.length_cons, List.length_nil, List.drop, List.take, List.head?_cons, List.getElem?_cons_zero, List.getElem?_cons_succ, List.set_cons_zero, List.nil_append, List.cons_append, List.append_nil, List.drop_zero, List.drop_succ_cons, List.drop_nil, List.take_zero, List.take_succ_cons, List.take_nil, cond_true, cond_false, Bool.and_self, Bool.and_true, and_self, and_true, true_and, if_true, bind_some', Nat.add_zero, Nat.zero_add, Nat.reduceAdd, Nat.reduceLeDiff, ne_eq, not_false_eq_true, Nat.add_eq_zero_iff, Nat.reduceEqDiff, one_ne_zero', zero_ne_one', nne1, nne2, nne3, Nat.add_right_cancel_iff, Nat.add_left_cancel_iff, Nat.le_refl, reduceCtorEq])
    refine Ok.ret (by first | rfl | (simp only [retV_one, retV_two, retV_three]; rfl)) (by (try simp only [new_n', setN_n', st0_n', put_n'] at *); first | omega | exact Nat.le_succ _ | exact Nat.le_refl _) ?_
    rw [hk, hb]; rfl

theorem LoopOf_impl {v : AV} {l : List Fac} (h : FS v l) (s : sm_FactorS l) (id : Int) : Gives i_impl_LoopOf [v, .int .i64 id] (.tup [facV (loopM l id).1, .bool (loopM l id).2]) := by
  intro n
  have hl := s.1
  rw [call_impl_LoopOf]
  simp only [retV_one, retV_two, retV_three, mkNew_agg, mkNew_zc, ld_top, ld_old, ld_setN, sto_top, sto_old, sto_setN, faddr_ptr, faddr_eptr, ld_eptr, new_m', new_n', setN_m', setN_n', st0_m', st0_n', put_m', put_n', AV.cells, AV.one, AV.stor, ldCells, setElem, splice, List.all_cons, List.all_nil, List.length_cons, List.length_nil, List.drop, List.take, List.head?_cons, List.getElem?_cons_zero, List.getElem?_cons_succ, List.set_cons_zero, List.nil_append, List.cons_append, List.append_nil, List.drop_zero, List.drop_succ_cons, List.drop_nil, List.take_zero, List.take_succ_cons, List.take_nil, cond_true, cond_false, Bool.and_self, Bool.and_true, and_self, and_true, true_and, if_true, bind_some', Nat.add_zero, Nat.zero_add, Nat.reduceAdd, Nat.reduceLeDiff, ne_eq, not_false_eq_true, Nat.add_eq_zero_iff, Nat.reduceEqDiff, one_ne_zero', zero_ne_one', nne1, nne2, nne3, Nat.add_right_cancel_iff, Nat.add_left_cancel_iff, Nat.le_refl, reduceCtorEq]
  refine Ok.gives (findFactor_ok h (by omega) id) (plain2 h.plain (plain_int _ _)) fun m1 h1 => ?_
  simp only [retV_one, retV_two, retV_three, mkNew_agg, mkNew_zc, ld_top, ld_old, ld_setN, sto_top, sto_old, sto_setN, faddr_ptr, faddr_eptr, ld_eptr, new_m', new_n', setN_m', setN_n', st0_m', st0_n', put_m', put_n', AV.cells, AV.one, AV.stor, ldCells, setElem, splice, List.all_cons, List.all_nil, List.length_cons, List.length_nil, List.drop, List.take, List.head?_cons, List.getElem?_cons_zero, List.getElem?_cons_succ, List.set_cons_zero, List.nil_append, List.cons_append, List.append_nil, List.drop_zero, List.drop_succ_cons, List.drop_nil, List.take_zero, List.take_succ_cons, List.take_nil, cond_true, cond_false, Bool.and_self, Bool.and_true, and_self, and_true, true_and, if_true, bind_some', Nat.add_zero, Nat.zero_add, Nat.reduceAdd, Nat.reduceLeDiff, ne_eq, not_false_eq_true, Nat.add_eq_zero_iff, Nat.reduceEqDiff, one_ne_zero', zero_ne_one', nne1, nne2, nne3, Nat.add_right_cancel_iff, Nat.add_left_cancel_iff, Nat.le_refl, reduceCtorEq, bind_some', aBin_lss, aBin_leq, aBin_gtr, aBin_geq, aBin_eql, aBin_neq, aBin_add, aBin_sub, aBin_mul, aBin_seql, aBin_sneq, aBinb_eql, aBinb_neq, aUn_not, aUn_neg, aSlen_str, extr0, extr1, extr2]
  refine Ok.gives (IsFactorList_impl h s) (plain1 h.plain) fun m2 h2 => ?_
  simp only [retV_one, retV_two, retV_three, mkNew_agg, mkNew_zc, ld_top, ld_old, ld_setN, sto_top, sto_old, sto_setN, faddr_ptr, faddr_eptr, ld_eptr, new_m', new_n', setN_m', setN_n', st0_m', st0_n', put_m', put_n', AV.cells, AV.one, AV.stor, ldCells, setElem, splice, List.all_cons, List.all_nil, List.length_cons, List.length_nil, List.drop, List.take, List.head?_cons, List.getElem?_cons_zero, List.getElem?_cons_succ, List.set_cons_zero, List.nil_append, List.cons_append, List.append_nil, List.drop_zero, List.drop_succ_cons, List.drop_nil, List.take_zero, List.take_succ_cons, List.take_nil, cond_true, cond_false, Bool.and_self, Bool.and_true, and_self, and_true, true_and, if_true, bind_some', Nat.add_zero, Nat.zero_add, Nat.reduceAdd, Nat.reduceLeDiff, ne_eq, not_false_eq_true, Nat.add_eq_zero_iff, Nat.reduceEqDiff, one_ne_zero', zero_ne_one', nne1, nne2, nne3, Nat.add_right_cancel_iff, Nat.add_left_cancel_iff, Nat.le_refl, reduceCtorEq, bind_some', aBin_lss, aBin_leq, aBin_gtr, aBin_geq, aBin_eql, aBin_neq, aBin_add, aBin_sub, aBin_mul, aBin_seql, aBin_sneq, aBinb_eql, aBinb_neq, aUn_not, aUn_neg, aSlen_str, extr0, extr1, extr2]
  refine Ok.cndnb (fun hf => ?_) fun hf => ?_
  · refine Ok.ret (by first | rfl | (simp only [retV_one, retV_two, retV_three]; rfl)) (by (try simp only [new_n', setN_n', st0_n', put_n'] at *); first | omega | exact Nat.le_succ _ | exact Nat.le_refl _) ?_
    simp [loopM, hf, facV, fac0, pose0]
  have hx := l21_fidx hf id
  have hr := fidx_range (fun x => decide (x.id = id)) l
  refine Ok.cnd (fun h0 => ?_) fun h0 => ?_
  · refine Ok.ret (by first | rfl | (simp only [retV_one, retV_two, retV_three]; rfl)) (by (try simp only [new_n', setN_n', st0_n', put_n'] at *); first | omega | exact Nat.le_succ _ | exact Nat.le_refl _) ?_
    rw [if_pos h0] at hx
    simp [loopM, hx, facV, fac0, pose0]
  rw [if_neg h0] at hx
  obtain ⟨i, hi⟩ : ∃ i : Nat, fidx (fun x => decide (x.id = id)) l = (i : Int) := ⟨(fidx (fun x => decide (x.id = id)) l).toNat, by omega⟩
  rw [hi] at hx hr
  have hil : i < l.length := by omega
  simp only [Int.toNat_natCast, List.getElem?_eq_getElem hil] at hx
  obtain ⟨p, q1, q0, _⟩ := FS.get (st := st0 n) h (List.getElem?_eq_getElem hil) .i64
  rw [hi]
  subst q0
  simp only [facV, AV.cells] at q1
  simp only [q1, retV_one, retV_two, retV_three, mkNew_agg, mkNew_zc, ld_top, ld_old, ld_setN, sto_top, sto_old, sto_setN, faddr_ptr, faddr_eptr, ld_eptr, new_m', new_n', setN_m', setN_n', st0_m', st0_n', put_m', put_n', AV.cells, AV.one, AV.stor, ldCells, setElem, splice, List.all_cons, List.all_nil, List.length_cons, List.length_nil, List.drop, List.take, List.head?_cons, List.getElem?_cons_zero, List.getElem?_cons_succ, List.set_cons_zero, List.nil_append, List.cons_append, List.append_nil, List.drop_zero, List.drop_succ_cons, List.drop_nil, List.take_zero, List.take_succ_cons, List.take_nil, cond_true, cond_false, Bool.and_self, Bool.and_true, and_self, and_true, true_and, if_true, bind_some', Nat.add_zero, Nat.zero_add, Nat.reduceAdd, Nat.reduceLeDiff, ne_eq, not_false_eq_true, Nat.add_eq_zero_iff, Nat.reduceEqDiff, one_ne_zero', zero_ne_one', nne1, nne2, nne3, Nat.add_right_cancel_iff, Nat.add_left_cancel_iff, Nat.le_refl, reduceCtorEq, bind_some', aBin_lss, aBin_leq, aBin_gtr, aBin_geq, aBin_eql, aBin_neq, aBin_add, aBin_sub, aBin_mul, aBin_seql, aBin_sneq, aBinb_eql, aBinb_neq, aUn_not, aUn_neg, aSlen_str, extr0, extr1, extr2]
  refine Ok.cnd (fun hk => ?_) fun hk => ?_
  · refine Ok.ret (by first | rfl | (simp only [retV_one, retV_two, retV_three]; rfl)) (by (try simp only [new_n', setN_n', st0_n', put_n'] at *); first | omega | exact Nat.le_succ _ | exact Nat.le_refl _) ?_
    rw [if_neg hk] at hx
    simp [loopM, hx, facV, fac0, pose0]
  have hk : l[i].kind = 4 := Decidable.not_not.1 hk
  rw [if_pos hk] at hx
  refine Ok.gives (KnownPose_impl h s _) (plain2 h.plain (plain_str _)) fun m3 h3 => ?_
  simp only [poseV, q1, retV_one, retV_two, retV_three, mkNew_agg, mkNew_zc, ld_top, ld_old, ld_setN, sto_top, sto_old, sto_setN, faddr_ptr, faddr_eptr, ld_eptr, new_m', new_n', setN_m', setN_n', st0_m', st0_n', put_m', put_n', AV.cells, AV.one, AV.stor, ldCells, setElem, splice, List.all_cons, List.all_nil, List.length_cons, List.length_nil, List.drop, List.take, List.head?_cons, List.getElem?_cons_zero, List.getElem?_cons_succ, List.set_cons_zero, List.nil_append, List.cons_append, List.append_nil, List.drop_zero, List.drop_succ_cons, List.drop_nil, List.take_zero, List.take_succ_cons, List.take_nil, cond_true, cond_false, Bool.and_self, Bool.and_true, and_self, and_true, true_and, if_true, bind_some', Nat.add_zero, Nat.zero_add, Nat.reduceAdd, Nat.reduceLeDiff, ne_eq, not_false_eq_true, Nat.add_eq_zero_iff, Nat.reduceEqDiff, one_ne_zero', zero_ne_one', nne1, nne2, nne3, Nat.add_right_cancel_iff, Nat.add_left_cancel_iff, Nat.le_refl, reduceCtorEq, bind_some', aBin_lss, aBin_leq, aBin_gtr, aBin_geq, aBin_eql, aBin_neq, aBin_add, aBin_sub, aBin_mul, aBin_seql, aBin_sneq, aBinb_eql, aBinb_neq, aUn_not, aUn_neg, aSlen_str, extr0, extr1, extr2]
  refine Ok.gives (KnownPose_impl h s _) (plain2 h.plain (plain_str _)) fun m4 h4 => ?_
  simp only [poseV, q1, retV_one, retV_two, retV_three, mkNew_agg, mkNew_zc, ld_top, ld_old, ld_setN, sto_top, sto_old, sto_setN, faddr_ptr, faddr_eptr, ld_eptr, new_m', new_n', setN_m', setN_n', st0_m', st0_n', put_m', put_n', AV.cells, AV.one, AV.stor, ldCells, setElem, splice, List.all_cons, List.all_nil, List.length_cons, List.length_nil, List.drop, List.take, List.head?_cons, List.getElem?_cons_zero, List.getElem?_cons_succ, List.set_cons_zero, List.nil_append, List.cons_append, List.append_nil, List.drop_zero, List.drop_succ_cons, List.drop_nil, List.take_zero, List.take_succ_cons, List.take_nil, cond_true, cond_false, Bool.and_self, Bool.and_true, and_self, and_true, true_and, if_true, bind_some', Nat.add_zero, Nat.zero_add, Nat.reduceAdd, Nat.reduceLeDiff, ne_eq, not_false_eq_true, Nat.add_eq_zero_iff, Nat.reduceEqDiff, one_ne_zero', zero_ne_one', nne1, nne2, nne3, Nat.add_right_cancel_iff, Nat.add_left_cancel_iff, Nat.le_refl, reduceCtorEq, bind_some', aBin_lss, aBin_leq, aBin_gtr, aBin_geq, aBin_eql, aBin_neq, aBin_add, aBin_sub, aBin_mul, aBin_seql, aBin_sneq, aBinb_eql, aBinb_neq, aUn_not, aUn_neg, aSlen_str, extr0, extr1, extr2]
  repeat' first
    | (refine Ok.cndnb (fun h => ?_) fun h => ?_)
  all_goals (try simp only [retV_one, retV_two, retV_three, mkNew_agg, mkNew_zc, ld_top, ld_old, ld_setN, sto_top, sto_old, sto_setN, faddr_ptr, faddr_eptr, ld_eptr, new_m', new_n', setN_m', setN_n', st0_m', st0_n', put_m', put_n', AV.cells, AV.one, AV.stor, ldCells, setElem, splice, List.all_cons, List.all_nil, List.length_cons, List.length_nil, List.drop, List.take, List.head?_cons, List.getElem?_cons_zero, List.getElem?_cons_succ, List.set_cons_zero, List.nil_append, List.cons_append, List.append_nil, List.drop_zero, List.drop_succ_cons, List.drop_nil, List.take_zero, List.take_succ_cons, List.take_nil, cond_true, cond_false, Bool.and_self, Bool.and_true, and_self, and_true, true_and, if_true, bind_some', Nat.add_zero, Nat.zero_add, Nat.reduceAdd, Nat.reduceLeDiff, ne_eq, not_false_eq_true, Nat.add_eq_zero_iff, Nat.reduceEqDiff, one_ne_zero', zero_ne_one', nne1, nne2, nne3, Nat.add_right_cancel_iff, Nat.add_left_cancel_iff, Nat.le_refl, reduceCtorEq, bind_some', aBin_lss, aBin_leq, aBin_gtr, aBin_geq, aBin_eql, aBin_neq, aBin_add, aBin_sub, aBin_mul, aBin_seql, aBin_sneq, aBinb_eql, aBinb_neq, aUn_not, aUn_neg, aSlen_str, extr0, extr1, extr2])
  all_goals refine Ok.ret (by first | rfl | (simp only [retV_one, retV_two, retV_three]; rfl)) (by (try simp only [new_n', setN_n', st0_n', put_n'] at *); first | omega | exact Nat.le_succ _ | exact Nat.le_refl _) ?_
  all_goals simp_all [loopM, facV, fac0, pose0]

theorem composeAllOk_g {v : AV} {l : List Pos} (h : PosS v l) (hl : l.length ≤ 4294967296) : Gives i_impl_composeAllOk [v] (.tup [poseV (chainM pose0 l).1, .bool (chainM pose0 l).2]) := by
  intro n
  rw [call_impl_composeAllOk]
  simp only [retV_one, retV_two, retV_three, mkNew_agg, mkNew_zc, ld_top, ld_old, ld_setN, sto_top, sto_old, sto_setN, faddr_ptr, faddr_eptr, ld_eptr, new_m', new_n', setN_m', setN_n', st0_m', st0_n', put_m', put_n', AV.cells, AV.one, AV.stor, ldCells, setElem, splice, List.all_cons, List.all_nil, List.length_cons, List.length_nil, List.drop, List.take, List.head?_cons, List.getElem?_cons_zero, List.getElem?_cons_succ, List.set_cons_zero, List.nil_append, List.cons_append, List.append_nil, List.drop_zero, List.drop_succ_cons, List.drop_nil, List.take_zero, List.take_succ_cons, List.take_nil, cond_true, cond_false, Bool.and_self, Bool.and_true, and_self, and_true, true_and, if_true, bind_some', Nat.add_zero, Nat.zero_add, Nat.reduceAdd, Nat.reduceLeDiff, ne_eq, not_false_eq_true, Nat.add_eq_zero_iff, Nat.reduceEqDiff, one_ne_zero', zero_ne_one', nne1, nne2, nne3, Nat.add_right_cancel_iff, Nat.add_left_cancel_iff, Nat.le_refl, reduceCtorEq, SlOf.len h]
  refine Ok.bind (P := fun r => ∃ st', n ≤ st'.n ∧ st'.H 0 = some ⟨n, 3, [poseV pose0]⟩ ∧ ((r = (.exit 0, [.ptr 0 n 0 0, .undef, .ptr 1 (n + 1) 0 0], st') ∧ aLoad true 3 st' (.ptr 1 (n + 1) 0 0) = some (poseV (chainM pose0 l).1) ∧ (chainM pose0 l).2 = true) ∨ (r = (.ret, [.ptr 0 n 0 0, .bool false, .ptr 1 (n + 1) 0 0], st') ∧ chainM pose0 l = (pose0, false))))
    (Ok.loop (σ := Pos × St) (Lp := fun i s => L.loop [2, 4, 9, 10, 11] [2, 3, 4] b_impl_composeAllOk_1 [.ptr 0 n 0 0, .ptr 1 (n + 1) 0 0, v, .int .i64 l.length, .int .i64 i] s.2) (I := fun i s => n ≤ s.2.n ∧ 1 < s.2.m ∧ s.2.H 0 = some ⟨n, 3, [poseV pose0]⟩ ∧ s.2.H 1 = some ⟨n + 1, 3, [poseV s.1]⟩ ∧ chainM s.1 (l.drop i) = chainM pose0 l) l.length ?_ ?_ l.length 0 (pose0, _) (by omega) ⟨?_, ?_, ?_, ?_, rfl⟩) ?_
  · rintro ⟨p, S⟩ ⟨h1, h2, h3, h4, h5⟩
    dsimp only at h1 h2 h3 h4 h5
    rw [loop_impl_composeAllOk_1]
    simp only [bind_some', aBin_lss, cnd_dec, Int.lt_irrefl, if_false]
    rw [List.drop_length] at h5
    refine ⟨_, rfl, S, h1, h3, .inl ⟨rfl, ?_, by rw [← h5]; rfl⟩⟩
    rw [← h5]
    simp [aLoad, get_H h4, chainM, poseV, AV.cells, ldCells]
  · rintro i ⟨p, S⟩ hi ⟨h1, h2, h3, h4, h5⟩ ih
    dsimp only at h1 h2 h3 h4 h5
    have ia := h.atE hi .i64
    have hpa : pa l i = l[i] := by simp [pa, List.getElem?_eq_getElem hi]
    rw [List.drop_eq_getElem_cons hi] at h5
    have z1 : ¬ 1 = S.m := by omega
    have z0 : ¬ 0 = S.m := by omega
    have z3 : ¬ 1 = S.m + 1 := by omega
    have z4 : ¬ 0 = S.m + 1 := by omega
    have hl1 : aLoad true 3 S (.ptr 1 (n + 1) 0 0) = some (poseV p) := by simp [aLoad, get_H h4, poseV, AV.cells, ldCells]
    rw [loop_impl_composeAllOk_1]
    simp only [bind_some', aBin_lss, aBin_leq, aBin_gtr, aBin_geq, aBin_eql, aBin_neq, aBin_add, aBin_sub, aBin_mul, aBin_seql, aBin_sneq, aBinb_eql, aBinb_neq, aUn_not, aUn_neg, aSlen_str, extr0, extr1, extr2, ia, hpa]
    refine Ok.cnd (fun _ => ?_) fun hf => absurd hf (by omega)
    simp only [retV_one, retV_two, retV_three, mkNew_agg, mkNew_zc, ld_top, ld_old, ld_setN, sto_top, setN_setN, faddr_ptr, faddr_eptr, ld_eptr, new_m', new_n', setN_m', setN_n', st0_m', st0_n', put_m', put_n', AV.cells, AV.one, AV.stor, ldCells, setElem, splice, List.all_cons, List.all_nil, List.length_cons, List.length_nil, List.drop, List.take, List.head?_cons, List.getElem?_cons_zero, List.getElem?_cons_succ, List.set_cons_zero, List.nil_append, List.cons_append, List.append_nil, List.drop_zero, List.drop_succ_cons, List.drop_nil, List.take_zero, List.take_succ_cons, List.take_nil, cond_true, cond_false, Bool.and_self, Bool.and_true, and_self, and_true, true_and, if_true, bind_some', Nat.add_zero, Nat.zero_add, Nat.reduceAdd, Nat.reduceLeDiff, ne_eq, not_false_eq_true, Nat.add_eq_zero_iff, Nat.reduceEqDiff, one_ne_zero', zero_ne_one', nne1, nne2, nne3, Nat.add_right_cancel_iff, Nat.add_left_cancel_iff, Nat.le_refl, reduceCtorEq, z1, z0, z3, z4, hl1]
    refine Ok.gives (compose_impl p l[i]) (pB rfl) fun m hm => ?_
    have hm' : S.n + 1 ≤ m := hm
    simp only [poseV, retV_one, retV_two, retV_three, mkNew_agg, mkNew_zc, ld_top, ld_old, ld_setN, sto_top, setN_setN, faddr_ptr, faddr_eptr, ld_eptr, new_m', new_n', setN_m', setN_n', st0_m', st0_n', put_m', put_n', AV.cells, AV.one, AV.stor, ldCells, setElem, splice, List.all_cons, List.all_nil, List.length_cons, List.length_nil, List.drop, List.take, List.head?_cons, List.getElem?_cons_zero, List.getElem?_cons_succ, List.set_cons_zero, List.nil_append, List.cons_append, List.append_nil, List.drop_zero, List.drop_succ_cons, List.drop_nil, List.take_zero, List.take_succ_cons, List.take_nil, cond_true, cond_false, Bool.and_self, Bool.and_true, and_self, and_true, true_and, if_true, bind_some', Nat.add_zero, Nat.zero_add, Nat.reduceAdd, Nat.reduceLeDiff, ne_eq, not_false_eq_true, Nat.add_eq_zero_iff, Nat.reduceEqDiff, one_ne_zero', zero_ne_one', nne1, nne2, nne3, Nat.add_right_cancel_iff, Nat.add_left_cancel_iff, Nat.le_refl, reduceCtorEq, bind_some', aBin_lss, aBin_leq, aBin_gtr, aBin_geq, aBin_eql, aBin_neq, aBin_add, aBin_sub, aBin_mul, aBin_seql, aBin_sneq, aBinb_eql, aBinb_neq, aUn_not, aUn_neg, aSlen_str, extr0, extr1, extr2]
    obtain ⟨c1, _⟩ := cell3 (S := (S.new 3 [poseV l[i]]).setN m) (j := 1) (t := n + 1) (p := p) (by simp only [St.setN]; rw [new_H_ne z1]; exact h4) (compM p l[i]).1
    simp only [poseV] at c1
    simp only [c1, retV_one, retV_two, retV_three, mkNew_agg, mkNew_zc, ld_top, ld_old, ld_setN, sto_top, setN_setN, faddr_ptr, faddr_eptr, ld_eptr, new_m', new_n', setN_m', setN_n', st0_m', st0_n', put_m', put_n', AV.cells, AV.one, AV.stor, ldCells, setElem, splice, List.all_cons, List.all_nil, List.length_cons, List.length_nil, List.drop, List.take, List.head?_cons, List.getElem?_cons_zero, List.getElem?_cons_succ, List.set_cons_zero, List.nil_append, List.cons_append, List.append_nil, List.drop_zero, List.drop_succ_cons, List.drop_nil, List.take_zero, List.take_succ_cons, List.take_nil, cond_true, cond_false, Bool.and_self, Bool.and_true, and_self, and_true, true_and, if_true, bind_some', Nat.add_zero, Nat.zero_add, Nat.reduceAdd, Nat.reduceLeDiff, ne_eq, not_false_eq_true, Nat.add_eq_zero_iff, Nat.reduceEqDiff, one_ne_zero', zero_ne_one', nne1, nne2, nne3, Nat.add_right_cancel_iff, Nat.add_left_cancel_iff, Nat.le_refl, reduceCtorEq, bind_some', aBin_lss, aBin_leq, aBin_gtr, aBin_geq, aBin_eql, aBin_neq, aBin_add, aBin_sub, aBin_mul, aBin_seql, aBin_sneq, aBinb_eql, aBinb_neq, aUn_not, aUn_neg, aSlen_str, extr0, extr1, extr2]
    have e0 : ∀ q : Pos, (((S.new 3 [poseV l[i]]).setN m).put 1 ⟨n + 1, 3, [poseV q]⟩).H 0 = some ⟨n, 3, [poseV pose0]⟩ := fun q => by
      rw [put_H_ne (by omega)]; simp only [St.setN]; rw [new_H_ne z0]; exact h3
    refine Ok.cndnb (fun hc => ?_) fun hc => ?_
    · obtain ⟨d1, d2⟩ := cell3 (e0 (compM p l[i]).1) pose0
      simp only [poseV, pose0] at d1
      rw [show (aStore 3 (.ptr 0 n 0 0) zc_iii _) = _ from d1]
      refine ⟨_, rfl, _, ?_, put_H _ _ _, .inr ⟨rfl, ?_⟩⟩
      · simp only [put_n, setN_n]; omega
      · rw [← h5, chainM, if_neg (by rw [hc]; exact Bool.false_ne_true)]
    · rw [wrap_i (by omega)]
      refine ih ((compM p l[i]).1, _) ⟨?_, ?_, e0 _, put_H _ _ _, ?_⟩
      · simp only [put_n, setN_n]; omega
      · simp only [put_m, setN_m, new_m]; omega
      · rw [← h5]; simp only [chainM, hc, if_true]
  · simp only [new_n', setN_n', st0_n']; omega
  · simp only [new_m', setN_m', st0_m']; omega
  · rfl
  · rfl
  · rintro _ ⟨st', hn, h3, ⟨rfl, h4, h5⟩ | ⟨rfl, h5⟩⟩
    · rw [k_impl_composeAllOk_1_0]
      obtain ⟨c1, c2⟩ := cell3 h3 (chainM pose0 l).1
      simp only [h4, bind_some', c1, c2, retV_one, retV_two, retV_three, mkNew_agg, mkNew_zc, ld_top, ld_old, ld_setN, sto_top, setN_setN, faddr_ptr, faddr_eptr, ld_eptr, new_m', new_n', setN_m', setN_n', st0_m', st0_n', put_m', put_n', AV.cells, AV.one, AV.stor, ldCells, setElem, splice, List.all_cons, List.all_nil, List.length_cons, List.length_nil, List.drop, List.take, List.head?_cons, List.getElem?_cons_zero, List.getElem?_cons_succ, List.set_cons_zero, List.nil_append, List.cons_append, List.append_nil, List.drop_zero, List.drop_succ_cons, List.drop_nil, List.take_zero, List.take_succ_cons, List.take_nil, cond_true, cond_false, Bool.and_self, Bool.and_true, and_self, and_true, true_and, if_true, bind_some', Nat.add_zero, Nat.zero_add, Nat.reduceAdd, Nat.reduceLeDiff, ne_eq, not_false_eq_true, Nat.add_eq_zero_iff, Nat.reduceEqDiff, one_ne_zero', zero_ne_one', nne1, nne2, nne3, Nat.add_right_cancel_iff, Nat.add_left_cancel_iff, Nat.le_refl, reduceCtorEq]
      exact Ok.ret rfl hn (by rw [h5])
    · rw [k_impl_composeAllOk_1_ret]
      have : aLoad true 3 st' (.ptr 0 n 0 0) = some (poseV pose0) := by simp [aLoad, get_H h3, poseV, AV.cells, ldCells]
      simp only [this, retV_one, retV_two, retV_three, mkNew_agg, mkNew_zc, ld_top, ld_old, ld_setN, sto_top, setN_setN, faddr_ptr, faddr_eptr, ld_eptr, new_m', new_n', setN_m', setN_n', st0_m', st0_n', put_m', put_n', AV.cells, AV.one, AV.stor, ldCells, setElem, splice, List.all_cons, List.all_nil, List.length_cons, List.length_nil, List.drop, List.take, List.head?_cons, List.getElem?_cons_zero, List.getElem?_cons_succ, List.set_cons_zero, List.nil_append, List.cons_append, List.append_nil, List.drop_zero, List.drop_succ_cons, List.drop_nil, List.take_zero, List.take_succ_cons, List.take_nil, cond_true, cond_false, Bool.and_self, Bool.and_true, and_self, and_true, true_and, if_true, bind_some', Nat.add_zero, Nat.zero_add, Nat.reduceAdd, Nat.reduceLeDiff, ne_eq, not_false_eq_true, Nat.add_eq_zero_iff, Nat.reduceEqDiff, one_ne_zero', zero_ne_one', nne1, nne2, nne3, Nat.add_right_cancel_iff, Nat.add_left_cancel_iff, Nat.le_refl, reduceCtorEq]
      exact Ok.ret rfl hn (by rw [h5])

theorem LoopError_impl {v : AV} {l : List Fac} (h : FS v l) (s : sm_FactorS l) (i j : Int) : Gives i_impl_LoopError [v, .int .i64 i, .int .i64 j] (.tup [poseV (errM l i j).1, .bool (errM l i j).2]) := by
  intro n
  rw [call_impl_LoopError]
  simp only [retV_one, retV_two, retV_three, mkNew_agg, mkNew_zc, ld_top, ld_old, ld_setN, sto_top, sto_old, sto_setN, faddr_ptr, faddr_eptr, ld_eptr, new_m', new_n', setN_m', setN_n', st0_m', st0_n', put_m', put_n', AV.cells, AV.one, AV.stor, ldCells, setElem, splice, List.all_cons, List.all_nil, List.length_cons, List.length_nil, List.drop, List.take, List.head?_cons, List.getElem?_cons_zero, List.getElem?_cons_succ, List.set_cons_zero, List.nil_append, List.cons_append, List.append_nil, List.drop_zero, List.drop_succ_cons, List.drop_nil, List.take_zero, List.take_succ_cons, List.take_nil, cond_true, cond_false, Bool.and_self, Bool.and_true, and_self, and_true, true_and, if_true, bind_some', Nat.add_zero, Nat.zero_add, Nat.reduceAdd, Nat.reduceLeDiff, ne_eq, not_false_eq_true, Nat.add_eq_zero_iff, Nat.reduceEqDiff, one_ne_zero', zero_ne_one', nne1, nne2, nne3, Nat.add_right_cancel_iff, Nat.add_left_cancel_iff, Nat.le_refl, reduceCtorEq]
  refine Ok.gives (LoopOf_impl h s i) (plain2 h.plain (plain_int _ _)) fun m1 h1 => ?_
  simp only [facV, retV_one, retV_two, retV_three, mkNew_agg, mkNew_zc, ld_top, ld_old, ld_setN, sto_top, sto_old, sto_setN, faddr_ptr, faddr_eptr, ld_eptr, new_m', new_n', setN_m', setN_n', st0_m', st0_n', put_m', put_n', AV.cells, AV.one, AV.stor, ldCells, setElem, splice, List.all_cons, List.all_nil, List.length_cons, List.length_nil, List.drop, List.take, List.head?_cons, List.getElem?_cons_zero, List.getElem?_cons_succ, List.set_cons_zero, List.nil_append, List.cons_append, List.append_nil, List.drop_zero, List.drop_succ_cons, List.drop_nil, List.take_zero, List.take_succ_cons, List.take_nil, cond_true, cond_false, Bool.and_self, Bool.and_true, and_self, and_true, true_and, if_true, bind_some', Nat.add_zero, Nat.zero_add, Nat.reduceAdd, Nat.reduceLeDiff, ne_eq, not_false_eq_true, Nat.add_eq_zero_iff, Nat.reduceEqDiff, one_ne_zero', zero_ne_one', nne1, nne2, nne3, Nat.add_right_cancel_iff, Nat.add_left_cancel_iff, Nat.le_refl, reduceCtorEq, bind_some', aBin_lss, aBin_leq, aBin_gtr, aBin_geq, aBin_eql, aBin_neq, aBin_add, aBin_sub, aBin_mul, aBin_seql, aBin_sneq, aBinb_eql, aBinb_neq, aUn_not, aUn_neg, aSlen_str, extr0, extr1, extr2]
  refine Ok.gives (LoopOf_impl h s j) (plain2 h.plain (plain_int _ _)) fun m2 h2 => ?_
  simp only [facV, retV_one, retV_two, retV_three, mkNew_agg, mkNew_zc, ld_top, ld_old, ld_setN, sto_top, sto_old, sto_setN, faddr_ptr, faddr_eptr, ld_eptr, new_m', new_n', setN_m', setN_n', st0_m', st0_n', put_m', put_n', AV.cells, AV.one, AV.stor, ldCells, setElem, splice, List.all_cons, List.all_nil, List.length_cons, List.length_nil, List.drop, List.take, List.head?_cons, List.getElem?_cons_zero, List.getElem?_cons_succ, List.set_cons_zero, List.nil_append, List.cons_append, List.append_nil, List.drop_zero, List.drop_succ_cons, List.drop_nil, List.take_zero, List.take_succ_cons, List.take_nil, cond_true, cond_false, Bool.and_self, Bool.and_true, and_self, and_true, true_and, if_true, bind_some', Nat.add_zero, Nat.zero_add, Nat.reduceAdd, Nat.reduceLeDiff, ne_eq, not_false_eq_true, Nat.add_eq_zero_iff, Nat.reduceEqDiff, one_ne_zero', zero_ne_one', nne1, nne2, nne3, Nat.add_right_cancel_iff, Nat.add_left_cancel_iff, Nat.le_refl, reduceCtorEq, bind_some', aBin_lss, aBin_leq, aBin_gtr, aBin_geq, aBin_eql, aBin_neq, aBin_add, aBin_sub, aBin_mul, aBin_seql, aBin_sneq, aBinb_eql, aBinb_neq, aUn_not, aUn_neg, aSlen_str, extr0, extr1, extr2]
  refine Ok.cndnb (fun hi => ?_) fun hi => ?_
  · (try simp only [retV_one, retV_two, retV_three, mkNew_agg, mkNew_zc, ld_top, ld_old, ld_setN, sto_top, sto_old, sto_setN, faddr_ptr, faddr_eptr, ld_eptr, new_m', new_n', setN_m', setN_n', st0_m', st0_n', put_m', put_n', AV.cells, AV.one, AV.stor, ldCells, setElem, splice, List.all_cons, List.all_nil, List.length_cons, List.length_nil, List.drop, List.take, List.head?_cons, List.getElem?_cons_zero, List.getElem?_cons_succ, List.set_cons_zero, List.nil_append, List.cons_append, List.append_nil, List.drop_zero, List.drop_succ_cons, List.drop_nil, List.take_zero, List.take_succ_cons, List.take_nil, cond_true, cond_false, Bool.and_self, Bool.and_true, and_self, and_true, true_and, if_true, bind_some', Nat.add_zero, Nat.zero_add, Nat.reduceAdd, Nat.reduceLeDiff, ne_eq, not_false_eq_true, Nat.add_eq_zero_iff, Nat.reduceEqDiff, one_ne_zero', zero_ne_one', nne1, nne2, nne3, Nat.add_right_cancel_iff, Nat.add_left_cancel_iff, Nat.le_refl, reduceCtorEq, bind_some', aBin_lss, aBin_leq, aBin_gtr, aBin_geq, aBin_eql, aBin_neq, aBin_add, aBin_sub, aBin_mul, aBin_seql, aBin_sneq, aBinb_eql, aBinb_neq, aUn_not, aUn_neg, aSlen_str, extr0, extr1, extr2])
    refine Ok.ret (by first | rfl | (simp only [retV_one, retV_two, retV_three]; rfl)) (by (try simp only [new_n', setN_n', st0_n', put_n'] at *); first | omega | exact Nat.le_succ _ | exact Nat.le_refl _) ?_
    simp_all [errM, pose0, poseV]
  refine Ok.cndnb (fun hj => ?_) fun hj => ?_
  · (try simp only [retV_one, retV_two, retV_three, mkNew_agg, mkNew_zc, ld_top, ld_old, ld_setN, sto_top, sto_old, sto_setN, faddr_ptr, faddr_eptr, ld_eptr, new_m', new_n', setN_m', setN_n', st0_m', st0_n', put_m', put_n', AV.cells, AV.one, AV.stor, ldCells, setElem, splice, List.all_cons, List.all_nil, List.length_cons, List.length_nil, List.drop, List.take, List.head?_cons, List.getElem?_cons_zero, List.getElem?_cons_succ, List.set_cons_zero, List.nil_append, List.cons_append, List.append_nil, List.drop_zero, List.drop_succ_cons, List.drop_nil, List.take_zero, List.take_succ_cons, List.take_nil, cond_true, cond_false, Bool.and_self, Bool.and_true, and_self, and_true, true_and, if_true, bind_some', Nat.add_zero, Nat.zero_add, Nat.reduceAdd, Nat.reduceLeDiff, ne_eq, not_false_eq_true, Nat.add_eq_zero_iff, Nat.reduceEqDiff, one_ne_zero', zero_ne_one', nne1, nne2, nne3, Nat.add_right_cancel_iff, Nat.add_left_cancel_iff, Nat.le_refl, reduceCtorEq, bind_some', aBin_lss, aBin_leq, aBin_gtr, aBin_geq, aBin_eql, aBin_neq, aBin_add, aBin_sub, aBin_mul, aBin_seql, aBin_sneq, aBinb_eql, aBinb_neq, aUn_not, aUn_neg, aSlen_str, extr0, extr1, extr2])
    refine Ok.ret (by first | rfl | (simp only [retV_one, retV_two, retV_three]; rfl)) (by (try simp only [new_n', setN_n', st0_n', put_n'] at *); first | omega | exact Nat.le_succ _ | exact Nat.le_refl _) ?_
    simp_all [errM, pose0, poseV]
  refine Ok.gives (KnownPose_impl h s _) (plain2 h.plain (plain_str _)) fun m3 h3 => ?_
  simp only [poseV, retV_one, retV_two, retV_three, mkNew_agg, mkNew_zc, ld_top, ld_old, ld_setN, sto_top, sto_old, sto_setN, faddr_ptr, faddr_eptr, ld_eptr, new_m', new_n', setN_m', setN_n', st0_m', st0_n', put_m', put_n', AV.cells, AV.one, AV.stor, ldCells, setElem, splice, List.all_cons, List.all_nil, List.length_cons, List.length_nil, List.drop, List.take, List.head?_cons, List.getElem?_cons_zero, List.getElem?_cons_succ, List.set_cons_zero, List.nil_append, List.cons_append, List.append_nil, List.drop_zero, List.drop_succ_cons, List.drop_nil, List.take_zero, List.take_succ_cons, List.take_nil, cond_true, cond_false, Bool.and_self, Bool.and_true, and_self, and_true, true_and, if_true, bind_some', Nat.add_zero, Nat.zero_add, Nat.reduceAdd, Nat.reduceLeDiff, ne_eq, not_false_eq_true, Nat.add_eq_zero_iff, Nat.reduceEqDiff, one_ne_zero', zero_ne_one', nne1, nne2, nne3, Nat.add_right_cancel_iff, Nat.add_left_cancel_iff, Nat.le_refl, reduceCtorEq, bind_some', aBin_lss, aBin_leq, aBin_gtr, aBin_geq, aBin_eql, aBin_neq, aBin_add, aBin_sub, aBin_mul, aBin_seql, aBin_sneq, aBinb_eql, aBinb_neq, aUn_not, aUn_neg, aSlen_str, extr0, extr1, extr2]
  refine Ok.gives (KnownPose_impl h s _) (plain2 h.plain (plain_str _)) fun m4 h4 => ?_
  simp only [poseV, retV_one, retV_two, retV_three, mkNew_agg, mkNew_zc, ld_top, ld_old, ld_setN, sto_top, sto_old, sto_setN, faddr_ptr, faddr_eptr, ld_eptr, new_m', new_n', setN_m', setN_n', st0_m', st0_n', put_m', put_n', AV.cells, AV.one, AV.stor, ldCells, setElem, splice, List.all_cons, List.all_nil, List.length_cons, List.length_nil, List.drop, List.take, List.head?_cons, List.getElem?_cons_zero, List.getElem?_cons_succ, List.set_cons_zero, List.nil_append, List.cons_append, List.append_nil, List.drop_zero, List.drop_succ_cons, List.drop_nil, List.take_zero, List.take_succ_cons, List.take_nil, cond_true, cond_false, Bool.and_self, Bool.and_true, and_self, and_true, true_and, if_true, bind_some', Nat.add_zero, Nat.zero_add, Nat.reduceAdd, Nat.reduceLeDiff, ne_eq, not_false_eq_true, Nat.add_eq_zero_iff, Nat.reduceEqDiff, one_ne_zero', zero_ne_one', nne1, nne2, nne3, Nat.add_right_cancel_iff, Nat.add_left_cancel_iff, Nat.le_refl, reduceCtorEq, bind_some', aBin_lss, aBin_leq, aBin_gtr, aBin_geq, aBin_eql, aBin_neq, aBin_add, aBin_sub, aBin_mul, aBin_seql, aBin_sneq, aBinb_eql, aBinb_neq, aUn_not, aUn_neg, aSlen_str, extr0, extr1, extr2]
  refine Ok.gives (KnownPose_impl h s _) (plain2 h.plain (plain_str _)) fun m5 h5 => ?_
  simp only [poseV, retV_one, retV_two, retV_three, mkNew_agg, mkNew_zc, ld_top, ld_old, ld_setN, sto_top, sto_old, sto_setN, faddr_ptr, faddr_eptr, ld_eptr, new_m', new_n', setN_m', setN_n', st0_m', st0_n', put_m', put_n', AV.cells, AV.one, AV.stor, ldCells, setElem, splice, List.all_cons, List.all_nil, List.length_cons, List.length_nil, List.drop, List.take, List.head?_cons, List.getElem?_cons_zero, List.getElem?_cons_succ, List.set_cons_zero, List.nil_append, List.cons_append, List.append_nil, List.drop_zero, List.drop_succ_cons, List.drop_nil, List.take_zero, List.take_succ_cons, List.take_nil, cond_true, cond_false, Bool.and_self, Bool.and_true, and_self, and_true, true_and, if_true, bind_some', Nat.add_zero, Nat.zero_add, Nat.reduceAdd, Nat.reduceLeDiff, ne_eq, not_false_eq_true, Nat.add_eq_zero_iff, Nat.reduceEqDiff, one_ne_zero', zero_ne_one', nne1, nne2, nne3, Nat.add_right_cancel_iff, Nat.add_left_cancel_iff, Nat.le_refl, reduceCtorEq, bind_some', aBin_lss, aBin_leq, aBin_gtr, aBin_geq, aBin_eql, aBin_neq, aBin_add, aBin_sub, aBin_mul, aBin_seql, aBin_sneq, aBinb_eql, aBinb_neq, aUn_not, aUn_neg, aSlen_str, extr0, extr1, extr2]
  refine Ok.gives (KnownPose_impl h s _) (plain2 h.plain (plain_str _)) fun m6 h6 => ?_
  simp only [poseV, retV_one, retV_two, retV_three, mkNew_agg, mkNew_zc, ld_top, ld_old, ld_setN, sto_top, sto_old, sto_setN, faddr_ptr, faddr_eptr, ld_eptr, new_m', new_n', setN_m', setN_n', st0_m', st0_n', put_m', put_n', AV.cells, AV.one, AV.stor, ldCells, setElem, splice, List.all_cons, List.all_nil, List.length_cons, List.length_nil, List.drop, List.take, List.head?_cons, List.getElem?_cons_zero, List.getElem?_cons_succ, List.set_cons_zero, List.nil_append, List.cons_append, List.append_nil, List.drop_zero, List.drop_succ_cons, List.drop_nil, List.take_zero, List.take_succ_cons, List.take_nil, cond_true, cond_false, Bool.and_self, Bool.and_true, and_self, and_true, true_and, if_true, bind_some', Nat.add_zero, Nat.zero_add, Nat.reduceAdd, Nat.reduceLeDiff, ne_eq, not_false_eq_true, Nat.add_eq_zero_iff, Nat.reduceEqDiff, one_ne_zero', zero_ne_one', nne1, nne2, nne3, Nat.add_right_cancel_iff, Nat.add_left_cancel_iff, Nat.le_refl, reduceCtorEq, bind_some', aBin_lss, aBin_leq, aBin_gtr, aBin_geq, aBin_eql, aBin_neq, aBin_add, aBin_sub, aBin_mul, aBin_seql, aBin_sneq, aBinb_eql, aBinb_neq, aUn_not, aUn_neg, aSlen_str, extr0, extr1, extr2]
  refine Ok.gives (Inverse_impl (knownM l (loopM l i).1.to).1) (pB rfl) fun m7 h7 => ?_
  simp only [poseV, retV_one, retV_two, retV_three, mkNew_agg, mkNew_zc, ld_top, ld_old, ld_setN, sto_top, sto_old, sto_setN, faddr_ptr, faddr_eptr, ld_eptr, new_m', new_n', setN_m', setN_n', st0_m', st0_n', put_m', put_n', AV.cells, AV.one, AV.stor, ldCells, setElem, splice, List.all_cons, List.all_nil, List.length_cons, List.length_nil, List.drop, List.take, List.head?_cons, List.getElem?_cons_zero, List.getElem?_cons_succ, List.set_cons_zero, List.nil_append, List.cons_append, List.append_nil, List.drop_zero, List.drop_succ_cons, List.drop_nil, List.take_zero, List.take_succ_cons, List.take_nil, cond_true, cond_false, Bool.and_self, Bool.and_true, and_self, and_true, true_and, if_true, bind_some', Nat.add_zero, Nat.zero_add, Nat.reduceAdd, Nat.reduceLeDiff, ne_eq, not_false_eq_true, Nat.add_eq_zero_iff, Nat.reduceEqDiff, one_ne_zero', zero_ne_one', nne1, nne2, nne3, Nat.add_right_cancel_iff, Nat.add_left_cancel_iff, Nat.le_refl, reduceCtorEq, bind_some', aBin_lss, aBin_leq, aBin_gtr, aBin_geq, aBin_eql, aBin_neq, aBin_add, aBin_sub, aBin_mul, aBin_seql, aBin_sneq, aBinb_eql, aBinb_neq, aUn_not, aUn_neg, aSlen_str, extr0, extr1, extr2]
  refine Ok.gives (compose_impl (invM (knownM l (loopM l i).1.to).1) (knownM l (loopM l j).1.to).1) (pB rfl) fun m8 h8 => ?_
  simp only [poseV, retV_one, retV_two, retV_three, mkNew_agg, mkNew_zc, ld_top, ld_old, ld_setN, sto_top, sto_old, sto_setN, faddr_ptr, faddr_eptr, ld_eptr, new_m', new_n', setN_m', setN_n', st0_m', st0_n', put_m', put_n', AV.cells, AV.one, AV.stor, ldCells, setElem, splice, List.all_cons, List.all_nil, List.length_cons, List.length_nil, List.drop, List.take, List.head?_cons, List.getElem?_cons_zero, List.getElem?_cons_succ, List.set_cons_zero, List.nil_append, List.cons_append, List.append_nil, List.drop_zero, List.drop_succ_cons, List.drop_nil, List.take_zero, List.take_succ_cons, List.take_nil, cond_true, cond_false, Bool.and_self, Bool.and_true, and_self, and_true, true_and, if_true, bind_some', Nat.add_zero, Nat.zero_add, Nat.reduceAdd, Nat.reduceLeDiff, ne_eq, not_false_eq_true, Nat.add_eq_zero_iff, Nat.reduceEqDiff, one_ne_zero', zero_ne_one', nne1, nne2, nne3, Nat.add_right_cancel_iff, Nat.add_left_cancel_iff, Nat.le_refl, reduceCtorEq, bind_some', aBin_lss, aBin_leq, aBin_gtr, aBin_geq, aBin_eql, aBin_neq, aBin_add, aBin_sub, aBin_mul, aBin_seql, aBin_sneq, aBinb_eql, aBinb_neq, aUn_not, aUn_neg, aSlen_str, extr0, extr1, extr2]
  refine Ok.gives (Inverse_impl (knownM l (loopM l j).1.frm).1) (pB rfl) fun m9 h9 => ?_
  simp only [poseV, retV_one, retV_two, retV_three, mkNew_agg, mkNew_zc, ld_top, ld_old, ld_setN, sto_top, sto_old, sto_setN, faddr_ptr, faddr_eptr, ld_eptr, new_m', new_n', setN_m', setN_n', st0_m', st0_n', put_m', put_n', AV.cells, AV.one, AV.stor, ldCells, setElem, splice, List.all_cons, List.all_nil, List.length_cons, List.length_nil, List.drop, List.take, List.head?_cons, List.getElem?_cons_zero, List.getElem?_cons_succ, List.set_cons_zero, List.nil_append, List.cons_append, List.append_nil, List.drop_zero, List.drop_succ_cons, List.drop_nil, List.take_zero, List.take_succ_cons, List.take_nil, cond_true, cond_false, Bool.and_self, Bool.and_true, and_self, and_true, true_and, if_true, bind_some', Nat.add_zero, Nat.zero_add, Nat.reduceAdd, Nat.reduceLeDiff, ne_eq, not_false_eq_true, Nat.add_eq_zero_iff, Nat.reduceEqDiff, one_ne_zero', zero_ne_one', nne1, nne2, nne3, Nat.add_right_cancel_iff, Nat.add_left_cancel_iff, Nat.le_refl, reduceCtorEq, bind_some', aBin_lss, aBin_leq, aBin_gtr, aBin_geq, aBin_eql, aBin_neq, aBin_add, aBin_sub, aBin_mul, aBin_seql, aBin_sneq, aBinb_eql, aBinb_neq, aUn_not, aUn_neg, aSlen_str, extr0, extr1, extr2]
  refine Ok.gives (compose_impl (invM (knownM l (loopM l j).1.frm).1) (knownM l (loopM l i).1.frm).1) (pB rfl) fun m10 h10 => ?_
  simp only [poseV, retV_one, retV_two, retV_three, mkNew_agg, mkNew_zc, ld_top, ld_old, ld_setN, sto_top, sto_old, sto_setN, faddr_ptr, faddr_eptr, ld_eptr, new_m', new_n', setN_m', setN_n', st0_m', st0_n', put_m', put_n', AV.cells, AV.one, AV.stor, ldCells, setElem, splice, List.all_cons, List.all_nil, List.length_cons, List.length_nil, List.drop, List.take, List.head?_cons, List.getElem?_cons_zero, List.getElem?_cons_succ, List.set_cons_zero, List.nil_append, List.cons_append, List.append_nil, List.drop_zero, List.drop_succ_cons, List.drop_nil, List.take_zero, List.take_succ_cons, List.take_nil, cond_true, cond_false, Bool.and_self, Bool.and_true, and_self, and_true, true_and, if_true, bind_some', Nat.add_zero, Nat.zero_add, Nat.reduceAdd, Nat.reduceLeDiff, ne_eq, not_false_eq_true, Nat.add_eq_zero_iff, Nat.reduceEqDiff, one_ne_zero', zero_ne_one', nne1, nne2, nne3, Nat.add_right_cancel_iff, Nat.add_left_cancel_iff, Nat.le_refl, reduceCtorEq, bind_some', aBin_lss, aBin_leq, aBin_gtr, aBin_geq, aBin_eql, aBin_neq, aBin_add, aBin_sub, aBin_mul, aBin_seql, aBin_sneq, aBinb_eql, aBinb_neq, aUn_not, aUn_neg, aSlen_str, extr0, extr1, extr2]
  refine Ok.cndnb (fun ha => ?_) fun ha => ?_
  · (try simp only [retV_one, retV_two, retV_three, mkNew_agg, mkNew_zc, ld_top, ld_old, ld_setN, sto_top, sto_old, sto_setN, faddr_ptr, faddr_eptr, ld_eptr, new_m', new_n', setN_m', setN_n', st0_m', st0_n', put_m', put_n', AV.cells, AV.one, AV.stor, ldCells, setElem, splice, List.all_cons, List.all_nil, List.length_cons, List.length_nil, List.drop, List.take, List.head?_cons, List.getElem?_cons_zero, List.getElem?_cons_succ, List.set_cons_zero, List.nil_append, List.cons_append, List.append_nil, List.drop_zero, List.drop_succ_cons, List.drop_nil, List.take_zero, List.take_succ_cons, List.take_nil, cond_true, cond_false, Bool.and_self, Bool.and_true, and_self, and_true, true_and, if_true, bind_some', Nat.add_zero, Nat.zero_add, Nat.reduceAdd, Nat.reduceLeDiff, ne_eq, not_false_eq_true, Nat.add_eq_zero_iff, Nat.reduceEqDiff, one_ne_zero', zero_ne_one', nne1, nne2, nne3, Nat.add_right_cancel_iff, Nat.add_left_cancel_iff, Nat.le_refl, reduceCtorEq, bind_some', aBin_lss, aBin_leq, aBin_gtr, aBin_geq, aBin_eql, aBin_neq, aBin_add, aBin_sub, aBin_mul, aBin_seql, aBin_sneq, aBinb_eql, aBinb_neq, aUn_not, aUn_neg, aSlen_str, extr0, extr1, extr2])
    refine Ok.ret (by first | rfl | (simp only [retV_one, retV_two, retV_three]; rfl)) (by (try simp only [new_n', setN_n', st0_n', put_n'] at *); first | omega | exact Nat.le_succ _ | exact Nat.le_refl _) ?_
    simp_all [errM, pose0, poseV]
  refine Ok.cndnb (fun hb => ?_) fun hb => ?_
  · (try simp only [retV_one, retV_two, retV_three, mkNew_agg, mkNew_zc, ld_top, ld_old, ld_setN, sto_top, sto_old, sto_setN, faddr_ptr, faddr_eptr, ld_eptr, new_m', new_n', setN_m', setN_n', st0_m', st0_n', put_m', put_n', AV.cells, AV.one, AV.stor, ldCells, setElem, splice, List.all_cons, List.all_nil, List.length_cons, List.length_nil, List.drop, List.take, List.head?_cons, List.getElem?_cons_zero, List.getElem?_cons_succ, List.set_cons_zero, List.nil_append, List.cons_append, List.append_nil, List.drop_zero, List.drop_succ_cons, List.drop_nil, List.take_zero, List.take_succ_cons, List.take_nil, cond_true, cond_false, Bool.and_self, Bool.and_true, and_self, and_true, true_and, if_true, bind_some', Nat.add_zero, Nat.zero_add, Nat.reduceAdd, Nat.reduceLeDiff, ne_eq, not_false_eq_true, Nat.add_eq_zero_iff, Nat.reduceEqDiff, one_ne_zero', zero_ne_one', nne1, nne2, nne3, Nat.add_right_cancel_iff, Nat.add_left_cancel_iff, Nat.le_refl, reduceCtorEq, bind_some', aBin_lss, aBin_leq, aBin_gtr, aBin_geq, aBin_eql, aBin_neq, aBin_add, aBin_sub, aBin_mul, aBin_seql, aBin_sneq, aBinb_eql, aBinb_neq, aUn_not, aUn_neg, aSlen_str, extr0, extr1, extr2])
    refine Ok.ret (by first | rfl | (simp only [retV_one, retV_two, retV_three]; rfl)) (by (try simp only [new_n', setN_n', st0_n', put_n'] at *); first | omega | exact Nat.le_succ _ | exact Nat.le_refl _) ?_
    simp_all [errM, pose0, poseV]
  refine Ok.gives (Inverse_impl (loopM l j).1.p) (pB rfl) fun m11 h11 => ?_
  simp only [poseV, mkLit, mkSlice, List.replicate, List.length_replicate, List.set_cons_succ, Nat.reduceLT, retV_one, retV_two, retV_three, mkNew_agg, mkNew_zc, ld_top, ld_old, ld_setN, sto_top, sto_old, sto_setN, faddr_ptr, faddr_eptr, ld_eptr, new_m', new_n', setN_m', setN_n', st0_m', st0_n', put_m', put_n', AV.cells, AV.one, AV.stor, ldCells, setElem, splice, List.all_cons, List.all_nil, List.length_cons, List.length_nil, List.drop, List.take, List.head?_cons, List.getElem?_cons_zero, List.getElem?_cons_succ, List.set_cons_zero, List.nil_append, List.cons_append, List.append_nil, List.drop_zero, List.drop_succ_cons, List.drop_nil, List.take_zero, List.take_succ_cons, List.take_nil, cond_true, cond_false, Bool.and_self, Bool.and_true, and_self, and_true, true_and, if_true, bind_some', Nat.add_zero, Nat.zero_add, Nat.reduceAdd, Nat.reduceLeDiff, ne_eq, not_false_eq_true, Nat.add_eq_zero_iff, Nat.reduceEqDiff, one_ne_zero', zero_ne_one', nne1, nne2, nne3, Nat.add_right_cancel_iff, Nat.add_left_cancel_iff, Nat.le_refl, reduceCtorEq, bind_some', aBin_lss, aBin_leq, aBin_gtr, aBin_geq, aBin_eql, aBin_neq, aBin_add, aBin_sub, aBin_mul, aBin_seql, aBin_sneq, aBinb_eql, aBinb_neq, aUn_not, aUn_neg, aSlen_str, extr0, extr1, extr2]
  have hE : errM l i j = chainM pose0 [(loopM l i).1.p, (compM (invM (knownM l (loopM l i).1.to).1) (knownM l (loopM l j).1.to).1).1, invM (loopM l j).1.p, (compM (invM (knownM l (loopM l j).1.frm).1) (knownM l (loopM l i).1.frm).1).1] := by
    simp [errM, hi, hj, ha, hb]
  refine Ok.givesL (composeAllOk_g (lit4_pos (loopM l i).1.p (compM (invM (knownM l (loopM l i).1.to).1) (knownM l (loopM l j).1.to).1).1 (invM (loopM l j).1.p) (compM (invM (knownM l (loopM l j).1.frm).1) (knownM l (loopM l i).1.frm).1).1 _) (by simp)) (mapO1 (lit4_res (loopM l i).1.p (compM (invM (knownM l (loopM l i).1.to).1) (knownM l (loopM l j).1.to).1).1 (invM (loopM l j).1.p) (compM (invM (knownM l (loopM l j).1.frm).1) (knownM l (loopM l i).1.frm).1).1 _)) (fun ls => reloc_tup fun w hw => by
    simp only [List.mem_cons, List.not_mem_nil, or_false] at hw
    rcases hw with rfl | rfl
    · exact ⟨.inr ⟨_, rfl, rfl⟩, by simp [poseV, AV.tags, tagsL]⟩
    · exact ⟨.inl rfl, by simp [AV.tags]⟩) fun m12 h12 => ?_
  simp only [poseV, retV_one, retV_two, retV_three, mkNew_agg, mkNew_zc, ld_top, ld_old, ld_setN, sto_top, sto_old, sto_setN, faddr_ptr, faddr_eptr, ld_eptr, new_m', new_n', setN_m', setN_n', st0_m', st0_n', put_m', put_n', AV.cells, AV.one, AV.stor, ldCells, setElem, splice, List.all_cons, List.all_nil, List.length_cons, List.length_nil, List.drop, List.take, List.head?_cons, List.getElem?_cons_zero, List.getElem?_cons_succ, List.set_cons_zero, List.nil_append, List.cons_append, List.append_nil, List.drop_zero, List.drop_succ_cons, List.drop_nil, List.take_zero, List.take_succ_cons, List.take_nil, cond_true, cond_false, Bool.and_self, Bool.and_true, and_self, and_true, true_and, if_true, bind_some', Nat.add_zero, Nat.zero_add, Nat.reduceAdd, Nat.reduceLeDiff, ne_eq, not_false_eq_true, Nat.add_eq_zero_iff, Nat.reduceEqDiff, one_ne_zero', zero_ne_one', nne1, nne2, nne3, Nat.add_right_cancel_iff, Nat.add_left_cancel_iff, Nat.le_refl, reduceCtorEq, bind_some', aBin_lss, aBin_leq, aBin_gtr, aBin_geq, aBin_eql, aBin_neq, aBin_add, aBin_sub, aBin_mul, aBin_seql, aBin_sneq, aBinb_eql, aBinb_neq, aUn_not, aUn_neg, aSlen_str, extr0, extr1, extr2]
  refine Ok.ret (by first | rfl | (simp only [retV_one, retV_two, retV_three]; rfl)) (by (try simp only [new_n', setN_n', st0_n', put_n'] at *); first | omega | exact Nat.le_succ _ | exact Nat.le_refl _) ?_
  rw [hE]

theorem absOf_g (x : Int) (hx : -1000000 ≤ x ∧ x ≤ 1000000) : Gives i_impl_absOf [.int .i64 x] (.int .i64 (absM x)) := by
  intro n
  rw [call_impl_absOf]
  simp only [retV_one, retV_two, retV_three, mkNew_agg, mkNew_zc, ld_top, ld_old, ld_setN, sto_top, sto_old, sto_setN, faddr_ptr, faddr_eptr, ld_eptr, new_m', new_n', setN_m', setN_n', st0_m', st0_n', put_m', put_n', AV.cells, AV.one, AV.stor, ldCells, setElem, splice, List.all_cons, List.all_nil, List.length_cons, List.length_nil, List.drop, List.take, List.head?_cons, List.getElem?_cons_zero, List.getElem?_cons_succ, List.set_cons_zero, List.nil_append, List.cons_append, List.append_nil, List.drop_zero, List.drop_succ_cons, List.drop_nil, List.take_zero, List.take_succ_cons, List.take_nil, cond_true, cond_false, Bool.and_self, Bool.and_true, and_self, and_true, true_and, if_true, bind_some', Nat.add_zero, Nat.zero_add, Nat.reduceAdd, Nat.reduceLeDiff, ne_eq, not_false_eq_true, Nat.add_eq_zero_iff, Nat.reduceEqDiff, one_ne_zero', zero_ne_one', nne1, nne2, nne3, Nat.add_right_cancel_iff, Nat.add_left_cancel_iff, Nat.le_refl, reduceCtorEq, bind_some', aBin_lss, aBin_leq, aBin_gtr, aBin_geq, aBin_eql, aBin_neq, aBin_add, aBin_sub, aBin_mul, aBin_seql, aBin_sneq, aBinb_eql, aBinb_neq, aUn_not, aUn_neg, aSlen_str, extr0, extr1, extr2]
  refine Ok.cnd (fun h => ?_) fun h => ?_
  · refine Ok.reti (by (try simp only [new_n', setN_n', st0_n', put_n'] at *); first | omega | exact Nat.le_succ _ | exact Nat.le_refl _) ?_
    rw [wrap_i (by omega)]; simp [absM, h]
  · refine Ok.reti (by (try simp only [new_n', setN_n', st0_n', put_n'] at *); first | omega | exact Nat.le_succ _ | exact Nat.le_refl _) ?_
    simp [absM, h]
theorem LoopDistance_impl {v : AV} {l : List Fac} (h : FS v l) (s : sm_FactorS l) (i j : Int) : Gives i_impl_LoopDistance [v, .int .i64 i, .int .i64 j] (.int .i64 (distM l i j)) := by
  intro n
  rw [call_impl_LoopDistance]
  simp only [retV_one, retV_two, retV_three, mkNew_agg, mkNew_zc, ld_top, ld_old, ld_setN, sto_top, sto_old, sto_setN, faddr_ptr, faddr_eptr, ld_eptr, new_m', new_n', setN_m', setN_n', st0_m', st0_n', put_m', put_n', AV.cells, AV.one, AV.stor, ldCells, setElem, splice, List.all_cons, List.all_nil, List.length_cons, List.length_nil, List.drop, List.take, List.head?_cons, List.getElem?_cons_zero, List.getElem?_cons_succ, List.set_cons_zero, List.nil_append, List.cons_append, List.append_nil, List.drop_zero, List.drop_succ_cons, List.drop_nil, List.take_zero, List.take_succ_cons, List.take_nil, cond_true, cond_false, Bool.and_self, Bool.and_true, and_self, and_true, true_and, if_true, bind_some', Nat.add_zero, Nat.zero_add, Nat.reduceAdd, Nat.reduceLeDiff, ne_eq, not_false_eq_true, Nat.add_eq_zero_iff, Nat.reduceEqDiff, one_ne_zero', zero_ne_one', nne1, nne2, nne3, Nat.add_right_cancel_iff, Nat.add_left_cancel_iff, Nat.le_refl, reduceCtorEq]
  refine Ok.gives (LoopError_impl h s i j) (plain3 h.plain (plain_int _ _) (plain_int _ _)) fun m1 h1 => ?_
  have hb := errM_bound l i j
  simp only [poseOk, decide_eq_true_iff] at hb
  simp only [poseV, retV_one, retV_two, retV_three, mkNew_agg, mkNew_zc, ld_top, ld_old, ld_setN, sto_top, sto_old, sto_setN, faddr_ptr, faddr_eptr, ld_eptr, new_m', new_n', setN_m', setN_n', st0_m', st0_n', put_m', put_n', AV.cells, AV.one, AV.stor, ldCells, setElem, splice, List.all_cons, List.all_nil, List.length_cons, List.length_nil, List.drop, List.take, List.head?_cons, List.getElem?_cons_zero, List.getElem?_cons_succ, List.set_cons_zero, List.nil_append, List.cons_append, List.append_nil, List.drop_zero, List.drop_succ_cons, List.drop_nil, List.take_zero, List.take_succ_cons, List.take_nil, cond_true, cond_false, Bool.and_self, Bool.and_true, and_self, and_true, true_and, if_true, bind_some', Nat.add_zero, Nat.zero_add, Nat.reduceAdd, Nat.reduceLeDiff, ne_eq, not_false_eq_true, Nat.add_eq_zero_iff, Nat.reduceEqDiff, one_ne_zero', zero_ne_one', nne1, nne2, nne3, Nat.add_right_cancel_iff, Nat.add_left_cancel_iff, Nat.le_refl, reduceCtorEq, bind_some', aBin_lss, aBin_leq, aBin_gtr, aBin_geq, aBin_eql, aBin_neq, aBin_add, aBin_sub, aBin_mul, aBin_seql, aBin_sneq, aBinb_eql, aBinb_neq, aUn_not, aUn_neg, aSlen_str, extr0, extr1, extr2]
  refine Ok.cndnb (fun ho => ?_) fun ho => ?_
  · refine Ok.reti (by (try simp only [new_n', setN_n', st0_n', put_n'] at *); first | omega | exact Nat.le_succ _ | exact Nat.le_refl _) ?_
    simp [distM, ho]
  refine Ok.cnd (fun ht => ?_) fun ht => ?_
  · refine Ok.reti (by (try simp only [new_n', setN_n', st0_n', put_n'] at *); first | omega | exact Nat.le_succ _ | exact Nat.le_refl _) ?_
    simp [distM, ho, ht]
  refine Ok.gives (absOf_g (errM l i j).1.x (by omega)) (pB rfl) fun m2 h2 => ?_
  simp only [retV_one, retV_two, retV_three, mkNew_agg, mkNew_zc, ld_top, ld_old, ld_setN, sto_top, sto_old, sto_setN, faddr_ptr, faddr_eptr, ld_eptr, new_m', new_n', setN_m', setN_n', st0_m', st0_n', put_m', put_n', AV.cells, AV.one, AV.stor, ldCells, setElem, splice, List.all_cons, List.all_nil, List.length_cons, List.length_nil, List.drop, List.take, List.head?_cons, List.getElem?_cons_zero, List.getElem?_cons_succ, List.set_cons_zero, List.nil_append, List.cons_append, List.append_nil, List.drop_zero, List.drop_succ_cons, List.drop_nil, List.take_zero, List.take_succ_cons, List.take_nil, cond_true, cond_false, Bool.and_self, Bool.and_true, and_self, and_true, true_and, if_true, bind_some', Nat.add_zero, Nat.zero_add, Nat.reduceAdd, Nat.reduceLeDiff, ne_eq, not_false_eq_true, Nat.add_eq_zero_iff, Nat.reduceEqDiff, one_ne_zero', zero_ne_one', nne1, nne2, nne3, Nat.add_right_cancel_iff, Nat.add_left_cancel_iff, Nat.le_refl, reduceCtorEq, bind_some', aBin_lss, aBin_leq, aBin_gtr, aBin_geq, aBin_eql, aBin_neq, aBin_add, aBin_sub, aBin_mul, aBin_seql, aBin_sneq, aBinb_eql, aBinb_neq, aUn_not, aUn_neg, aSlen_str, extr0, extr1, extr2]
  refine Ok.gives (absOf_g (errM l i j).1.y (by omega)) (pB rfl) fun m3 h3 => ?_
  simp only [retV_one, retV_two, retV_three, mkNew_agg, mkNew_zc, ld_top, ld_old, ld_setN, sto_top, sto_old, sto_setN, faddr_ptr, faddr_eptr, ld_eptr, new_m', new_n', setN_m', setN_n', st0_m', st0_n', put_m', put_n', AV.cells, AV.one, AV.stor, ldCells, setElem, splice, List.all_cons, List.all_nil, List.length_cons, List.length_nil, List.drop, List.take, List.head?_cons, List.getElem?_cons_zero, List.getElem?_cons_succ, List.set_cons_zero, List.nil_append, List.cons_append, List.append_nil, List.drop_zero, List.drop_succ_cons, List.drop_nil, List.take_zero, List.take_succ_cons, List.take_nil, cond_true, cond_false, Bool.and_self, Bool.and_true, and_self, and_true, true_and, if_true, bind_some', Nat.add_zero, Nat.zero_add, Nat.reduceAdd, Nat.reduceLeDiff, ne_eq, not_false_eq_true, Nat.add_eq_zero_iff, Nat.reduceEqDiff, one_ne_zero', zero_ne_one', nne1, nne2, nne3, Nat.add_right_cancel_iff, Nat.add_left_cancel_iff, Nat.le_refl, reduceCtorEq, bind_some', aBin_lss, aBin_leq, aBin_gtr, aBin_geq, aBin_eql, aBin_neq, aBin_add, aBin_sub, aBin_mul, aBin_seql, aBin_sneq, aBinb_eql, aBinb_neq, aUn_not, aUn_neg, aSlen_str, extr0, extr1, extr2]
  refine Ok.reti (by (try simp only [new_n', setN_n', st0_n', put_n'] at *); first | omega | exact Nat.le_succ _ | exact Nat.le_refl _) ?_
  have ht : (errM l i j).1.t = 0 := Decidable.not_not.1 ht
  have : -9223372036854775808 ≤ absM (errM l i j).1.x + absM (errM l i j).1.y ∧ absM (errM l i j).1.x + absM (errM l i j).1.y ≤ 9223372036854775807 := by unfold absM; split <;> split <;> omega
  rw [wrap_i this]
  simp [distM, ho, ht]

end Go.Proofs.YtbomeeiaeohbpaaFw
