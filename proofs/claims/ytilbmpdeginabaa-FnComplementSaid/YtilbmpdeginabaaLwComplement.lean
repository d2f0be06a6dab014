/- The law FnComplement answers true at every input. Conditions: those of each theorem. -/
import Derived.Test.YtilbmpdeginabaaCts
import Derived.Test.YtilbmpdeginabaaRowComplement
set_option linter.unusedSimpArgs false
set_option linter.unusedVariables false
namespace Go.Proofs.YtilbmpdeginabaaFw
open Go

theorem rows_small {g : List (List Bool)} (hg : graphM g = true) : g.length ≤ 1048576 ∧ ∀ r ∈ g, r.length ≤ 1048576 := by
  obtain ⟨h12, hrows⟩ := graphM_rows hg
  refine ⟨by omega, fun r hr => ?_⟩
  obtain ⟨i, hi, rfl⟩ := List.mem_iff_getElem.1 hr
  obtain ⟨r, h1, h2⟩ := hrows i hi
  rw [List.getElem?_eq_getElem hi] at h1; cases h1; omega
theorem law_FnComplement : ∀ xs, hasArgs [(false, [.sl false [.int .u8]])] xs → ∃ n', L.call i_laws_FnComplement xs 1 = some (.bool true, n') := by
  intro xs h
  obtain ⟨v0, rfl, e0⟩ := args1 h
  obtain ⟨l0, b0⟩ := by_in e0
  suffices hs : Ok (L.call i_laws_FnComplement [v0] 1) fun p => p.1 = .bool true by
    obtain ⟨⟨r, n'⟩, e, hr⟩ := hs
    exact ⟨n', by rw [← show r = .bool true from hr]; exact e⟩
  rw [call_laws_FnComplement]
  simp only [SlOf.len b0, bind_some', aBin_gtr]
  refine Ok.cnd (fun _ => ⟨_, rfl, rfl⟩) fun hl => ?_
  refine Ok.call (MakeGraph_spec b0 (by omega) _) (plain1 b0.plain) fun x n1 p1 => ?_
  obtain ⟨_, g, hg, hx, _⟩ := p1
  dsimp only at hx
  obtain ⟨s1, s2⟩ := rows_small hg
  have hg2 := complM_graph hg
  have hg3 := complM_graph hg2
  obtain ⟨s3, s4⟩ := rows_small hg2
  have hl2 := complM_len hg
  have hl3 := complM_len hg2
  have hr3 := complM_rows hg2
  obtain ⟨h12, hrows⟩ := graphM_rows hg
  refine Ok.call (ComplementGraph_impl0 hx s1 s2 _) (plain1 hx.plain) fun y n2 p2 => ?_
  obtain ⟨_, hy, _⟩ := p2
  dsimp only at hy
  refine Ok.call (ComplementGraph_impl0 hy s3 s4 _) (plain1 hy.plain) fun z n3 p3 => ?_
  obtain ⟨_, hz, _⟩ := p3
  dsimp only at hz
  rw [call_same (plain1 hx.plain) (IsGraph_impl_call hx s1 s2 _)]
  simp only [bind_some', hg, aUn_not, Bool.not_true]
  refine Ok.cndb (fun hf => Bool.noConfusion hf) fun _ => ?_
  simp only [SlOf.len hx, SlOf.len hy, SlOf.len hz, bind_some', aBin_neq]
  refine Ok.cnd (fun hf => absurd hf (by omega)) fun _ => ?_
  refine Ok.cnd (fun hf => absurd hf (by omega)) fun _ => ?_
  generalize (((st0 1).setN n1).setN n2).setN n3 = E
  refine Ok.bind (P := fun r => r = (.exit 0, [.undef, x, y], E))
    (Ok.loop (σ := Unit) (Lp := fun i _ => L.loop [3, 4, 5, 38, 39] [2, 3, 4] b_laws_FnComplement_1 [x, y, z, .int .i64 (g.length : Int), .int .i64 i] E) (I := fun _ _ => True) g.length ?_ ?_ g.length 0 () (by omega) trivial) ?_
  · intro _ _
    rw [loop_laws_FnComplement_1]
    simp only [bind_some', aBin_lss, cnd_dec, Int.lt_irrefl, if_false]
    exact ⟨_, rfl, rfl⟩
  · intro i _ hi _ ih
    have hzi : (complM (complM g))[i]? = some ((complM (complM g))[i]'(by omega)) := List.getElem?_eq_getElem (by omega)
    obtain ⟨e, r1, r2⟩ := SlOf.idx hz hzi
    have hrl := hr3 _ (List.getElem_mem (by omega : i < (complM (complM g)).length))
    obtain ⟨row, w1, w2⟩ := hrows i hi
    obtain ⟨e', r1', r2'⟩ := SlOf.idx hx w1
    rw [loop_laws_FnComplement_1]
    simp only [bind_some', aBin_lss, aBin_neq, r2, ld_eptr, ld_one (SlOf.one r1), SlOf.len r1, SlOf.len hx]
    refine Ok.cnd (fun _ => ?_) fun hf => absurd hf (by omega)
    refine Ok.cnd (fun hf => absurd hf (by omega)) fun _ => ?_
    refine Ok.bind (P := fun r => r = (.exit 2, [.undef, x, y, z, .int .i64 (g.length : Int), .int .i64 (i : Int)], E))
      (Ok.loop (σ := Unit) (Lp := fun j _ => L.loop [3, 4, 5, 6, 38, 39, 51, 52] [2, 3, 4, 5, 38, 39] b_laws_FnComplement_2 [x, y, z, .int .i64 (i : Int), .int .i64 (g.length : Int), .int .i64 (i : Int), .int .i64 (g.length : Int), .int .i64 j] E) (I := fun _ _ => True) g.length ?_ ?_ g.length 0 () (by omega) trivial) ?_
    · intro _ _
      rw [loop_laws_FnComplement_2]
      simp only [bind_some', aBin_lss, cnd_dec, Int.lt_irrefl, if_false]
      exact ⟨_, rfl, rfl⟩
    · intro j _ hj _ ih2
      obtain ⟨c, rfl, q⟩ := SlOf.idx r1 (List.getElem?_eq_getElem (by omega : j < ((complM (complM g))[i]'(by omega)).length))
      obtain ⟨c', rfl, q'⟩ := SlOf.idx r1' (List.getElem?_eq_getElem (by omega : j < row.length))
      have hcc := compl_compl hg hi hj
      have a1 : at2 g i j = row[j]'(by omega) := by simp [at2, w1, List.getElem?_eq_getElem (by omega : j < row.length)]
      have a2 : at2 (complM (complM g)) i j = ((complM (complM g))[i]'(by omega))[j]'(by omega) := by simp only [at2, hzi, Option.bind_some, List.getElem?_eq_getElem (by omega : j < ((complM (complM g))[i]'(by omega)).length), Option.getD_some]
      have hcell : row[j]'(by omega) = ((complM (complM g))[i]'(by omega))[j]'(by omega) := by rw [← a1, ← a2, hcc]
      have lb : ∀ b : Bool, ldCells false 1 (AV.bool b).cells = some (.bool b) := fun b => rfl
      rw [loop_laws_FnComplement_2]
      simp only [bind_some', aBin_lss, r2, r2', ld_eptr, ld_one (SlOf.one r1), ld_one (SlOf.one r1'), q, q', lb, aBinb_neq, aBin_add]
      refine Ok.cnd (fun _ => ?_) fun hf => absurd hf (by omega)
      refine Ok.cnd (fun hf => absurd hcell hf) fun _ => ?_
      rw [wrap_i (by omega)]
      exact ih2 () trivial
    · rintro _ rfl
      rw [k_laws_FnComplement_2_2]
      simp only [aBin_add, bind_some']
      rw [wrap_i (by omega)]
      exact ih () trivial
  · rintro _ rfl
    have P1 := maxM_PC hg
    have P2 := maxM_PC hg2
    have hm1 : (maxM g).length ≤ 12 := clique_len (maxM_clique hg)
    have hm2 : (maxM (complM g)).length ≤ 12 := clique_len (maxM_clique hg2)
    have hle := meetN_le (a := maxM g) (b := maxM (complM g)) P2.nodup fun u hu v hv hua hva => meet_one hg P1 P2 hua hu hva hv
    rw [k_laws_FnComplement_1_0]
    refine Ok.call (MaxClique_impl0 hy s3 s4 _) (plain1 hy.plain) fun w n4 p4 => ?_
    obtain ⟨_, hw, _⟩ := p4
    dsimp only at hw
    simp only [SlOf.len hw, bind_some']
    refine Ok.bind (P := fun r => ∃ st, r = (.exit 4, [.undef, .int .i64 (meetN (maxM g) (maxM (complM g)) : Nat)], st))
      (Ok.loop (σ := St) (Lp := fun i s => L.loop [3, 8, 73, 74, 75] [2, 8] b_laws_FnComplement_3 [x, .int .i64 (meetN (maxM g) ((maxM (complM g)).take i) : Nat), w, .int .i64 ((maxM (complM g)).length : Int), .int .i64 i] s) (I := fun _ _ => True) (maxM (complM g)).length ?_ ?_ (maxM (complM g)).length 0 _ (by omega) trivial) ?_
    · intro st _
      rw [loop_laws_FnComplement_3, List.take_length]
      simp only [bind_some', aBin_lss, cnd_dec, Int.lt_irrefl, if_false]
      exact ⟨_, rfl, st, rfl⟩
    · intro i st hi _ ih
      obtain ⟨p, q1, q2⟩ := IS.get (st := st) hw (List.getElem?_eq_getElem hi) .i64
      have hb := meetN_take_le (a := maxM g) (maxM (complM g)) i
      have hnx : meetN (maxM g) ((maxM (complM g)).take (i + 1)) = meetN (maxM g) ((maxM (complM g)).take i) + if (maxM (complM g))[i] ∈ maxM g then 1 else 0 := by
        rw [List.take_add_one, List.getElem?_eq_getElem hi]
        exact meetN_app
      rw [loop_laws_FnComplement_3]
      simp only [bind_some', aBin_lss, q1, q2]
      refine Ok.cnd (fun _ => ?_) fun hf => absurd hf (by omega)
      refine Ok.call (MaxClique_impl0 hx s1 s2 _) (plain1 hx.plain) fun u n5 p5 => ?_
      obtain ⟨_, hu, _⟩ := p5
      dsimp only at hu
      refine Ok.call (lawHasInt_ok hu (by omega) _ _) (plain2 hu.plain (plain_int _ _)) fun v n6 p6 => ?_
      obtain ⟨_, hv⟩ := p6
      dsimp only at hv
      subst hv
      simp only [aBin_add, bind_some']
      refine Ok.cnd (fun hin => ?_) fun hin => ?_
      · rw [wrap_i (x := (meetN (maxM g) ((maxM (complM g)).take i) : Int) + 1) (by omega), wrap_i (by omega), show (meetN (maxM g) ((maxM (complM g)).take i) : Int) + 1 = ((meetN (maxM g) ((maxM (complM g)).take (i + 1)) : Nat) : Int) by rw [hnx, if_pos hin]; omega]
        exact ih _ trivial
      · rw [wrap_i (by omega), show meetN (maxM g) ((maxM (complM g)).take i) = meetN (maxM g) ((maxM (complM g)).take (i + 1)) by rw [hnx, if_neg hin]; omega]
        exact ih _ trivial
    · rintro _ ⟨st, rfl⟩
      rw [k_laws_FnComplement_3_4]
      simp only [aBin_leq, bind_some']
      rw [decide_eq_true (by omega)]
      exact ⟨_, rfl, rfl⟩

end Go.Proofs.YtilbmpdeginabaaFw
namespace Go.Proofs.Ytilbmpdeginabaa
theorem FnComplement_holds : Rows.FnComplementSaid := fnComplement.over YtilbmpdeginabaaFw.law_FnComplement
end Go.Proofs.Ytilbmpdeginabaa
