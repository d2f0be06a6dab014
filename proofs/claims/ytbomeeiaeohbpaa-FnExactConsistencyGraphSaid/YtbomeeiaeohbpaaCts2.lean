/- What the functions that the law reaches give back. Conditions: those of each theorem. -/
import Derived.Test.YtbomeeiaeohbpaaCts1
set_option linter.unusedSimpArgs false
set_option linter.unusedVariables false
namespace Go.Proofs.YtbomeeiaeohbpaaFw
open Go

theorem AreConsistent_impl {v : AV} {l : List Fac} (h : FS v l) (s : sm_FactorS l) (i j k : Int) : Gives i_impl_AreConsistent [v, .int .i64 i, .int .i64 j, .int .i64 k] (.bool (consM l i j k)) := by
  intro n
  rw [call_impl_AreConsistent]
  refine Ok.gives (LoopDistance_impl h s i j) (plain3 h.plain (plain_int _ _) (plain_int _ _)) fun m1 h1 => ?_
  simp only [retV_one, retV_two, retV_three, mkNew_agg, mkNew_zc, ld_top, ld_old, ld_setN, sto_top, sto_old, sto_setN, faddr_ptr, faddr_eptr, ld_eptr, new_m', new_n', setN_m', setN_n', st0_m', st0_n', put_m', put_n', AV.cells, AV.one, AV.stor, ldCells, setElem, splice, List.all_cons, List.all_nil, List.length_cons, List.length_nil, List.drop, List.take, List.head?_cons, List.getElem?_cons_zero, List.getElem?_cons_succ, List.set_cons_zero, List.nil_append, List.cons_append, List.append_nil, List.drop_zero, List.drop_succ_cons, List.drop_nil, List.take_zero, List.take_succ_cons, List.take_nil, cond_true, cond_false, Bool.and_self, Bool.and_true, and_self, and_true, true_and, if_true, bind_some', Nat.add_zero, Nat.zero_add, Nat.reduceAdd, Nat.reduceLeDiff, ne_eq, not_false_eq_true, Nat.add_eq_zero_iff, Nat.reduceEqDiff, one_ne_zero', zero_ne_one', nne1, nne2, nne3, Nat.add_right_cancel_iff, Nat.add_left_cancel_iff, Nat.le_refl, reduceCtorEq, bind_some', aBin_lss, aBin_leq, aBin_gtr, aBin_geq, aBin_eql, aBin_neq, aBin_add, aBin_sub, aBin_mul, aBin_seql, aBin_sneq, aBinb_eql, aBinb_neq, aUn_not, aUn_neg, aSlen_str, extr0, extr1, extr2]
  refine Ok.cnd (fun h0 => ?_) fun h0 => ?_
  · refine Ok.retb (by (try simp only [new_n', setN_n', st0_n', put_n'] at *); first | omega | exact Nat.le_succ _ | exact Nat.le_refl _) ?_
    simp [consM, h0]
  · refine Ok.retb (by (try simp only [new_n', setN_n', st0_n', put_n'] at *); first | omega | exact Nat.le_succ _ | exact Nat.le_refl _) ?_
    simp [consM, h0]

theorem ConsistencyGraph_impl0 {v : AV} {l : List Fac} (h : FS v l) (s : sm_FactorS l) (k : Int) (n : Nat) :
    Ok (L.call i_impl_ConsistencyGraph [v, .int .i64 k] n) fun p => n ≤ p.2 ∧ BSS p.1 (consGM l k) ∧ New 2 n p.2 p.1 := by
  have hl := s.1
  have hil := ids_length l 4
  rw [call_impl_ConsistencyGraph]
  refine Ok.call (FactorIds_impl h hl 4 _) (plain2 h.plain (plain_int _ _)) fun ids n1 hp => ?_
  obtain ⟨hn1, hids, _⟩ : n ≤ n1 ∧ IS ids (idsM l 4) ∧ _ := hp
  refine Ok.gives (IsFactorList_impl h s) (plain1 h.plain) fun n2 hn2 => ?_
  have hn2' : n1 ≤ n2 := hn2
  simp only [aUn_not, bind_some']
  refine Ok.cndnb (fun hg => ?_) fun hg => ?_
  · rw [resTup_plain plain_nils]
    exact ⟨_, rfl, (show n ≤ n2 by omega), ⟨[], .inl ⟨rfl, rfl⟩, by simp [consGM, hg, All2]⟩, New.nils⟩
  simp only [SlOf.len hids, bind_some', aBin_lss, aBin_leq, aBin_gtr, aBin_geq, aBin_eql, aBin_neq, aBin_add, aBin_sub, aBin_mul, aBin_seql, aBin_sneq, aBinb_eql, aBinb_neq, aUn_not, aUn_neg, aSlen_str, extr0, extr1, extr2]
  refine Ok.cnd (fun h12 => ?_) fun h12 => ?_
  · rw [resTup_plain plain_nils]
    have : ¬ (idsM l 4).length ≤ 12 := by omega
    exact ⟨_, rfl, (show n ≤ n2 by omega), ⟨[], .inl ⟨rfl, rfl⟩, by simp [consGM, this, All2]⟩, New.nils⟩
  rw [lit0_n]
  refine Ok.bind (P := fun r => ∃ w st, r = (.exit 0, [.undef, w], st) ∧ AccBSS n st w (matP (idsM l 4).length (conC l k) (idsM l 4).length) ∧ n ≤ st.n)
    (Ok.loop (σ := AV × St) (Lp := fun i s => L.loop [0, 1, 5, 6, 23, 24, 25] [4, 6] b_impl_ConsistencyGraph_1 [v, .int .i64 k, ids, s.1, ids, .int .i64 (idsM l 4).length, .int .i64 i] s.2) (I := fun i s => AccBSS n s.2 s.1 (matP (idsM l 4).length (conC l k) i) ∧ n ≤ s.2.n) (idsM l 4).length ?_ ?_ (idsM l 4).length 0 (.lsl (((st0 n).setN n1).setN n2).m (((st0 n).setN n1).setN n2).n 1 0 0, (((st0 n).setN n1).setN n2).new 1 []) (by omega) ⟨AccBSS.lit (show n ≤ n2 by omega), (show n ≤ n2 + 1 by omega)⟩) ?_
  · rintro ⟨w, st⟩ ⟨hA, hn⟩
    rw [loop_impl_ConsistencyGraph_1]
    simp only [bind_some', aBin_lss, cnd_dec, Int.lt_irrefl, if_false]
    exact ⟨_, rfl, w, st, rfl, hA, hn⟩
  · rintro i ⟨w, st⟩ hi ⟨hA, hn⟩ ih
    dsimp only at hA hn
    obtain ⟨p, q1, q2⟩ := IS.get (st := st) hids (List.getElem?_eq_getElem hi) .i64
    rw [loop_impl_ConsistencyGraph_1]
    simp only [bind_some', aBin_lss, cnd_dec, q1, q2, SlOf.len hids]
    rw [if_pos (by omega), lit0_b]
    refine Ok.bind (P := fun r => ∃ x st1, r = (.exit 2, [v, .int .i64 k, .undef, ids, w, x, ids, .int .i64 (idsM l 4).length, .int .i64 i], st1) ∧ RowI n st w x st1 (matR (conC l k i) (idsM l 4).length))
      (Ok.loop (σ := AV × St) (Lp := fun j s => L.loop [0, 1, 5, 6, 7, 8, 9, 23, 24, 25, 31, 32, 33] [0, 1, 4, 5, 6, 9, 23, 24, 25] b_impl_ConsistencyGraph_2 [v, .int .i64 k, ids, w, .int .i64 i, .int .i64 (idsM l 4)[i], s.1, ids, .int .i64 (idsM l 4).length, .int .i64 i, ids, .int .i64 (idsM l 4).length, .int .i64 j] s.2) (I := fun j s => RowI n st w s.1 s.2 (matR (conC l k i) j)) (idsM l 4).length ?_ ?_ (idsM l 4).length 0 (.lsl st.m st.n 1 0 0, st.new 1 []) (by omega) RowI.start) ?_
    · rintro ⟨x, st1⟩ hR
      rw [loop_impl_ConsistencyGraph_2]
      simp only [bind_some', aBin_lss, cnd_dec, Int.lt_irrefl, if_false]
      exact ⟨_, rfl, x, st1, rfl, hR⟩
    · rintro j ⟨x, st1⟩ hj hR ih2
      dsimp only at hR
      obtain ⟨p', q1', q2'⟩ := IS.get (st := st1) hids (List.getElem?_eq_getElem hj) .i64
      have hml := matR_length (conC l k i) j
      rw [loop_impl_ConsistencyGraph_2]
      simp only [bind_some', aBin_lss, aBin_leq, aBin_gtr, aBin_geq, aBin_eql, aBin_neq, aBin_add, aBin_sub, aBin_mul, aBin_seql, aBin_sneq, aBinb_eql, aBinb_neq, aUn_not, aUn_neg, aSlen_str, extr0, extr1, extr2, q1', q2']
      refine Ok.cnd (fun _ => ?_) fun hf => absurd hf (by omega)
      rw [wrap_i (x := (j : Int) + 1) (by omega)]
      refine Ok.cnd (fun hij => ?_) fun hij => ?_
      · refine Ok.gives (AreConsistent_impl h s (idsM l 4)[i] (idsM l 4)[j] k) (plain4 h.plain (plain_int _ _) (plain_int _ _) (plain_int _ _)) fun m hm => ?_
        refine (hR.setN hm).push (by omega) fun w' st' hR' => ih2 (w', st') ?_
        have hcell : conC l k i j = consM l (idsM l 4)[i] (idsM l 4)[j] k := by
          have : ¬ i = j := by omega
          simp [conC, this, List.getElem?_eq_getElem hi, List.getElem?_eq_getElem hj]
        rw [matR_succ, hcell]
        exact hR'
      · refine hR.push (by omega) fun w' st' hR' => ih2 (w', st') ?_
        have hcell : conC l k i j = false := by
          have : i = j := by omega
          simp [conC, this]
        rw [matR_succ, hcell]
        exact hR'
    · rintro _ ⟨x, st1, rfl, hR⟩
      have hpl := matP_length (idsM l 4).length (conC l k) i
      rw [k_impl_ConsistencyGraph_2_2]
      refine hR.close hA hn (by omega) fun v' st' k1 k2 => ?_
      simp only [aBin_add, bind_some']
      rw [wrap_i (by omega)]
      exact ih (v', st') ⟨by rw [matP_succ]; exact k1, Nat.le_trans hn k2⟩
  · rintro _ ⟨w, st, rfl, hA, hn⟩
    obtain ⟨T, t1, t2, t3⟩ := hA.fin
    rw [k_impl_ConsistencyGraph_1_0, t1]
    have h12' : (idsM l 4).length ≤ 12 := by omega
    exact ⟨_, rfl, hn, by simp only [consGM, hg, h12', and_self, if_true]; exact t2, t3⟩

def ConsistencyGraph_M (l : List Fac) (k : Int) : List (List Bool) := consGM l k
theorem ConsistencyGraph_sm {l : List Fac} {k : Int} (_ : sm_FactorS l) (_ : i64ok k) : sm_BoolSS (ConsistencyGraph_M l k) := by
  unfold ConsistencyGraph_M consGM
  split
  · rename_i h
    refine ⟨by rw [matP_length]; omega, fun r hr => ?_⟩
    simp only [matP, List.mem_map] at hr
    obtain ⟨i, _, rfl⟩ := hr
    rw [matR_length]; omega
  · exact ⟨by simp, by simp⟩
theorem ConsistencyGraph_spec_ok {v0 : AV} {l : List Fac} {k : Int} (h0 : FS v0 l) (s0 : sm_FactorS l) (_ : RI (.int .i64 k) k) (_ : i64ok k) (n : Nat) :
    Ok (L.call i_spec_ConsistencyGraph [v0, .int .i64 k] n) fun p => n ≤ p.2 ∧ BSS p.1 (ConsistencyGraph_M l k) := (ConsistencyGraph_spec0 h0 s0 k n).mono fun _ p => ⟨p.1, p.2.1⟩
theorem ConsistencyGraph_impl_ok {v0 : AV} {l : List Fac} {k : Int} (h0 : FS v0 l) (s0 : sm_FactorS l) (_ : RI (.int .i64 k) k) (_ : i64ok k) (n : Nat) :
    Ok (L.call i_impl_ConsistencyGraph [v0, .int .i64 k] n) fun p => n ≤ p.2 ∧ BSS p.1 (ConsistencyGraph_M l k) ∧ New 6 n p.2 p.1 := (ConsistencyGraph_impl0 h0 s0 k n).mono fun _ p => ⟨p.1, p.2.1, p.2.2.wide (by omega) (Nat.le_refl _) (Nat.le_refl _)⟩

end Go.Proofs.YtbomeeiaeohbpaaFw
