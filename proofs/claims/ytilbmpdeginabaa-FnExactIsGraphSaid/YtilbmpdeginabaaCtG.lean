/- Slices of slices of bools; the graph's test. Conditions: lengths below 2^31. -/
import Derived.Test.YtilbmpdeginabaaCtBool
namespace Go.Proofs.YtilbmpdeginabaaFw
open Go

theorem toBoolSS_call {x0 : AV} {l : List (List Bool)} (h0 : BSS x0 l) (hl : l.length ≤ 1048576) (hr : ∀ r ∈ l, r.length ≤ 1048576) (n : Nat) : ∃ r n', L.call i_laws_toBoolSS [x0] n = some (r, n') ∧ BSS r l ∧ n ≤ n' := by
  rw [call_laws_toBoolSS, SlOf.len h0]
  simp only [bind_some']
  rw [mkMake_ok (s := 1) (z := .nils) (by omega) rfl rfl (by omega)]
  obtain ⟨st', es', g1, g2, g3, g4, g5⟩ := copy_loop (R := BS) (fun i st => L.loop [0, 3, 4] [2, 3] b_laws_toBoolSS_1 [x0, .lsl 0 n 1 0 l.length, .int .i64 i] st) l n 1 0
    (fun i st es b hb hH hes hp => by
      have hi := (List.getElem?_eq_some_iff.1 hb).1
      have hbl : b.length ≤ 1048576 := hr b (List.mem_of_getElem? hb)
      obtain ⟨e1, q0, q1⟩ := SlOf.idx h0 hb
      obtain ⟨v, n', c1, c2, c3⟩ := toBoolS_call q0 (by omega) st.n
      refine ⟨v, n', c2, BS.plain c2, SlOf.one c2, c3, ?_⟩
      rw [loop_laws_toBoolSS_1, SlOf.len h0]
      simp only [bind_some', aBin_lss, cnd_dec, q1, load_one (SlOf.one q0), aBin_add]
      rw [if_pos (by omega), wrap64 (by omega) (by omega), call_plain (plain1 (BS.plain q0)) c1, bind_some', iaddr_lsl hi, bind_some']
      simp only
      rw [store_one (st := { st with n := n' }) hH (by omega) (hp _ (List.getElem_mem _)).2 (SlOf.one c2)]
      rfl)
    l.length 0 ((st0 n).new 1 (List.replicate l.length .nils)) (List.replicate l.length .nils) (by omega) (new_H (st0 n) _ _) (by simp) (fun e he => by rw [List.eq_of_mem_replicate he]; exact ⟨plain_nils, rfl⟩) (fun q e b hq => absurd hq (by omega))
  rw [show ((0 : Nat) : Int) = 0 from rfl] at g1
  show ∃ r n', (L.loop [0, 3, 4] [2, 3] b_laws_toBoolSS_1 [x0, .lsl 0 n 1 0 l.length, .int .i64 0] ((st0 n).new 1 (List.replicate l.length .nils))).bind k_laws_toBoolSS_1 = some (r, n') ∧ BSS r l ∧ n ≤ n'
  rw [g1, loop_laws_toBoolSS_1, SlOf.len h0]
  simp only [bind_some', aBin_lss, cnd_dec, Int.lt_irrefl, if_false, k_laws_toBoolSS_1_0]
  rw [← g3.length, resTup_lsl g2 fun e he => (g4 e he).1]
  exact ⟨_, _, rfl, ⟨es', .inr ⟨_, _, rfl⟩, g3⟩, Nat.le_trans (Nat.le_succ n) g5⟩

theorem eqBoolSS_call {x0 x1 : AV} {l1 l2 : List (List Bool)} (h0 : BSS x0 l1) (h1 : BSS x1 l2) (hb : l1.length < 2147483648) (hr : ∀ r ∈ l1, r.length < 2147483648) (n : Nat) : L.call i_laws_eqBoolSS [x0, x1] n = some (.bool (decide (l1 = l2)), n) := by
  rw [call_laws_eqBoolSS, SlOf.len h0, SlOf.len h1]
  simp only [bind_some', aBin_neq, cnd_dec]
  by_cases hl : l1.length = l2.length
  · rw [if_neg (by omega)]
    have := loop_all (fun i => L.loop [0, 1, 5] [4] b_laws_eqBoolSS_1 [x0, x1, .int .i64 i] (st0 n)) (eqAt l1 l2) l1.length (.exit 0, [.undef], st0 n) (.ret, [.bool false], st0 n)
      (by
        rw [loop_laws_eqBoolSS_1, SlOf.len h0]
        simp only [bind_some', aBin_lss, cnd_dec, Int.lt_irrefl, if_false])
      (fun i hi => by
        obtain ⟨e1, p1, g1⟩ := SlOf.idx h0 (List.getElem?_eq_getElem hi)
        obtain ⟨e2, p2, g2⟩ := SlOf.idx h1 (List.getElem?_eq_getElem (by omega : i < l2.length))
        rw [loop_laws_eqBoolSS_1, SlOf.len h0]
        simp only [bind_some', aBin_lss, cnd_dec, g1, g2, load_one (SlOf.one p1), load_one (SlOf.one p2), aBin_add]
        rw [if_pos (by omega), wrap64 (by omega) (by omega), call_same (plain2 (BS.plain p1) (BS.plain p2)) (eqBoolS_call p1 p2 (hr _ (List.getElem_mem hi)) _)]
        simp only [bind_some', aUn_not, cnd_ndec, eqAt, List.getElem?_eq_getElem hi, List.getElem?_eq_getElem (by omega : i < l2.length), Option.some.injEq, decide_eq_true_iff]
        rfl)
      l1.length 0 (by omega)
    rw [show ((0 : Nat) : Int) = 0 from rfl] at this
    rw [this, eqAt_all hl]
    by_cases hx : l1 = l2
    · simp only [hx, decide_true, if_true, bind_some', k_laws_eqBoolSS_1_0, resTup_bool]; rfl
    · simp only [hx, decide_false, Bool.false_eq_true, if_false, bind_some', k_laws_eqBoolSS_1_ret, resTup_bool]; rfl
  · rw [if_pos (by omega)]
    have : ¬ l1 = l2 := fun e => hl (by rw [e])
    simp only [resTup_bool, bind_some', this]; rfl

/-! ### the graph's test -/
def at2 (l : List (List Bool)) (i j : Nat) : Bool := ((l[i]?).bind (·[j]?)).getD false
def lenOk (l : List (List Bool)) (i : Nat) : Bool := decide ((l[i]?).map (·.length) = some l.length)
def cellOk (l : List (List Bool)) (i j : Nat) : Bool := !(at2 l i j && decide (i = j)) && decide (at2 l i j = at2 l j i)
def rowOk (l : List (List Bool)) (i : Nat) : Bool := allF (cellOk l i) 0 l.length
def graphM (l : List (List Bool)) : Bool := decide (l.length ≤ 12) && allF (lenOk l) 0 l.length && allF (rowOk l) 0 l.length

theorem IsGraph_spec_call {x0 : AV} {l : List (List Bool)} (h0 : BSS x0 l) (hl : l.length ≤ 1048576) (hr : ∀ r ∈ l, r.length ≤ 1048576) (n : Nat) : L.call i_spec_IsGraph [x0] n = some (.bool (graphM l), n) := by
  rw [call_spec_IsGraph, SlOf.len h0]
  simp only [bind_some', aBin_gtr, cnd_dec]
  by_cases h12 : (12 : Int) < l.length
  · rw [if_pos h12]
    have : graphM l = false := by unfold graphM; simp; intro h; omega
    rw [this]; simp only [resTup_bool, bind_some', n_st0]
  · rw [if_neg h12]
    have A := loop_all (fun i => L.loop [0, 12, 13, 14] [0, 2] b_spec_IsGraph_1 [x0, x0, .int .i64 l.length, .int .i64 i] (st0 n)) (lenOk l) l.length (.exit 0, [x0, .undef], st0 n) (.ret, [x0, .bool false], st0 n)
      (by
        rw [loop_spec_IsGraph_1]
        simp only [bind_some', aBin_lss, cnd_dec, Int.lt_irrefl, if_false])
      (fun i hi => by
        obtain ⟨e1, p1, g1⟩ := SlOf.idx h0 (List.getElem?_eq_getElem hi)
        have := hr _ (List.getElem_mem hi)
        rw [loop_spec_IsGraph_1]
        simp only [bind_some', aBin_lss, cnd_dec, g1, load_one (SlOf.one p1), SlOf.len p1, SlOf.len h0, aBin_neq, aBin_add]
        rw [if_pos (by omega), wrap64 (by omega) (by omega)]
        simp only [lenOk, List.getElem?_eq_getElem hi, Option.map_some, Option.some.injEq, decide_eq_true_iff, ite_not, Int.ofNat_inj]
        rfl)
      l.length 0 (by omega)
    rw [show ((0 : Nat) : Int) = 0 from rfl] at A
    rw [A]
    by_cases hA : allF (lenOk l) 0 l.length = true
    · rw [if_pos hA, bind_some', k_spec_IsGraph_1_0, SlOf.len h0, bind_some']
      have hrow : ∀ i, i < l.length → ∃ r, l[i]? = some r ∧ r.length = l.length := fun i hi => by
        have := allF_iff.1 hA i (Nat.zero_le i) (by omega)
        simp only [lenOk, decide_eq_true_iff, List.getElem?_eq_getElem hi, Option.map_some, Option.some.injEq] at this
        exact ⟨l[i], List.getElem?_eq_getElem hi, this⟩
      have B := loop_all (fun i => L.loop [0, 24, 25, 26] [2] b_spec_IsGraph_2 [x0, x0, .int .i64 l.length, .int .i64 i] (st0 n)) (rowOk l) l.length (.exit 2, [.undef], st0 n) (.ret, [.bool false], st0 n)
        (by
          rw [loop_spec_IsGraph_2]
          simp only [bind_some', aBin_lss, cnd_dec, Int.lt_irrefl, if_false])
        (fun i hi => by
          obtain ⟨ri, hri, hril⟩ := hrow i hi
          obtain ⟨e1, p1, g1⟩ := SlOf.idx h0 hri
          rw [loop_spec_IsGraph_2]
          simp only [bind_some', aBin_lss, cnd_dec, g1, load_one (SlOf.one p1), SlOf.len p1]
          rw [if_pos (by omega)]
          have C := loop_all (fun j => L.loop [0, 5, 24, 25, 26, 31, 32, 33] [0, 2, 24, 25, 26] b_spec_IsGraph_3 [x0, .int .i64 i, x0, .int .i64 l.length, .int .i64 i, e1, .int .i64 ri.length, .int .i64 j] (st0 n)) (cellOk l i) l.length
            (.exit 4, [x0, .undef, x0, .int .i64 l.length, .int .i64 i], st0 n) (.ret, [x0, .bool false, x0, .int .i64 l.length, .int .i64 i], st0 n)
            (by
              rw [loop_spec_IsGraph_3, hril]
              simp only [bind_some', aBin_lss, cnd_dec, Int.lt_irrefl, if_false])
            (fun j hj => by
              obtain ⟨rj, hrj, hrjl⟩ := hrow j hj
              obtain ⟨e2, p2, g2⟩ := SlOf.idx h0 hrj
              obtain ⟨e3, rfl, g3⟩ := SlOf.idx p1 (List.getElem?_eq_getElem (by omega : j < ri.length))
              obtain ⟨e4, rfl, g4⟩ := SlOf.idx p2 (List.getElem?_eq_getElem (by omega : i < rj.length))
              rw [loop_spec_IsGraph_3, hril]
              simp only [bind_some', aBin_lss, cnd_dec, g2, g3, g4, load_b, load_one (SlOf.one p2), aBin_eql, aBinb_neq, aBin_add]
              rw [if_pos (by omega), wrap64 (by omega) (by omega)]
              simp only [cnd_bool]
              have a1 : at2 l i j = ri[j] := by simp [at2, hri, List.getElem?_eq_getElem (by omega : j < ri.length)]
              have a2 : at2 l j i = rj[i] := by simp [at2, hrj, List.getElem?_eq_getElem (by omega : i < rj.length)]
              simp only [cellOk, a1, a2, Int.ofNat_inj]
              cases ri[j] <;> cases rj[i] <;> by_cases hij : i = j <;> simp [hij])
            l.length 0 (by omega)
          rw [show ((0 : Nat) : Int) = 0 from rfl] at C
          rw [C]
          by_cases hc : rowOk l i = true
          · have hc' : allF (cellOk l i) 0 l.length = true := hc
            rw [if_pos hc, if_pos hc', bind_some', k_spec_IsGraph_3_4]
            simp only [aBin_add, bind_some']
            rw [wrap64 (by omega) (by omega)]; rfl
          · have hc' : ¬ allF (cellOk l i) 0 l.length = true := hc
            rw [if_neg hc, if_neg hc', bind_some', k_spec_IsGraph_3_ret])
        l.length 0 (by omega)
      rw [show ((0 : Nat) : Int) = 0 from rfl] at B
      rw [B]
      have hle : decide (l.length ≤ 12) = true := by simp; omega
      by_cases hB : allF (rowOk l) 0 l.length = true
      · rw [if_pos hB, bind_some', k_spec_IsGraph_2_2]
        simp only [graphM, hA, hB, hle, resTup_bool, bind_some', n_st0, Bool.and_self]
      · rw [if_neg hB, bind_some', k_spec_IsGraph_2_ret]
        simp only [graphM, hA, hB, hle, resTup_bool, bind_some', n_st0, Bool.and_false]
    · rw [if_neg hA, bind_some', k_spec_IsGraph_1_ret]
      simp only [graphM, hA, resTup_bool, bind_some', n_st0, Bool.and_false, Bool.false_and]

theorem IsGraph_impl_call {x0 : AV} {l : List (List Bool)} (h0 : BSS x0 l) (hl : l.length ≤ 1048576) (hr : ∀ r ∈ l, r.length ≤ 1048576) (n : Nat) : L.call i_impl_IsGraph [x0] n = some (.bool (graphM l), n) := by
  rw [call_impl_IsGraph, SlOf.len h0]
  simp only [bind_some', aBin_gtr, cnd_dec]
  by_cases h12 : (12 : Int) < l.length
  · rw [if_pos h12]
    have : graphM l = false := by unfold graphM; simp; intro h; omega
    rw [this]; simp only [resTup_bool, bind_some', n_st0]
  · rw [if_neg h12]
    have A := loop_all (fun i => L.loop [0, 3, 14, 15, 16] [0, 2] b_impl_IsGraph_1 [x0, .int .i64 l.length, x0, .int .i64 l.length, .int .i64 i] (st0 n)) (lenOk l) l.length (.exit 0, [x0, .undef], st0 n) (.ret, [x0, .bool false], st0 n)
      (by
        rw [loop_impl_IsGraph_1]
        simp only [bind_some', aBin_lss, cnd_dec, Int.lt_irrefl, if_false])
      (fun i hi => by
        obtain ⟨e1, p1, g1⟩ := SlOf.idx h0 (List.getElem?_eq_getElem hi)
        have := hr _ (List.getElem_mem hi)
        rw [loop_impl_IsGraph_1]
        simp only [bind_some', aBin_lss, cnd_dec, g1, load_one (SlOf.one p1), SlOf.len p1, aBin_neq, aBin_add]
        rw [if_pos (by omega), wrap64 (by omega) (by omega)]
        simp only [lenOk, List.getElem?_eq_getElem hi, Option.map_some, Option.some.injEq, decide_eq_true_iff, ite_not, Int.ofNat_inj]
        rfl)
      l.length 0 (by omega)
    rw [show ((0 : Nat) : Int) = 0 from rfl] at A
    rw [A]
    by_cases hA : allF (lenOk l) 0 l.length = true
    · rw [if_pos hA, bind_some', k_impl_IsGraph_1_0, SlOf.len h0, bind_some']
      have hrow : ∀ i, i < l.length → ∃ r, l[i]? = some r ∧ r.length = l.length := fun i hi => by
        have := allF_iff.1 hA i (Nat.zero_le i) (by omega)
        simp only [lenOk, decide_eq_true_iff, List.getElem?_eq_getElem hi, Option.map_some, Option.some.injEq] at this
        exact ⟨l[i], List.getElem?_eq_getElem hi, this⟩
      have B := loop_all (fun i => L.loop [0, 25, 26, 27] [2] b_impl_IsGraph_2 [x0, x0, .int .i64 l.length, .int .i64 i] (st0 n)) (rowOk l) l.length (.exit 2, [.undef], st0 n) (.ret, [.bool false], st0 n)
        (by
          rw [loop_impl_IsGraph_2]
          simp only [bind_some', aBin_lss, cnd_dec, Int.lt_irrefl, if_false])
        (fun i hi => by
          obtain ⟨ri, hri, hril⟩ := hrow i hi
          obtain ⟨e1, p1, g1⟩ := SlOf.idx h0 hri
          rw [loop_impl_IsGraph_2]
          simp only [bind_some', aBin_lss, cnd_dec, g1, load_one (SlOf.one p1), SlOf.len p1]
          rw [if_pos (by omega)]
          have C := loop_all (fun j => L.loop [0, 6, 25, 26, 27, 32, 33, 34] [0, 2, 25, 26, 27] b_impl_IsGraph_3 [x0, .int .i64 i, x0, .int .i64 l.length, .int .i64 i, e1, .int .i64 ri.length, .int .i64 j] (st0 n)) (cellOk l i) l.length
            (.exit 4, [x0, .undef, x0, .int .i64 l.length, .int .i64 i], st0 n) (.ret, [x0, .bool false, x0, .int .i64 l.length, .int .i64 i], st0 n)
            (by
              rw [loop_impl_IsGraph_3, hril]
              simp only [bind_some', aBin_lss, cnd_dec, Int.lt_irrefl, if_false])
            (fun j hj => by
              obtain ⟨rj, hrj, hrjl⟩ := hrow j hj
              obtain ⟨e2, p2, g2⟩ := SlOf.idx h0 hrj
              obtain ⟨e3, rfl, g3⟩ := SlOf.idx p1 (List.getElem?_eq_getElem (by omega : j < ri.length))
              obtain ⟨e4, rfl, g4⟩ := SlOf.idx p2 (List.getElem?_eq_getElem (by omega : i < rj.length))
              rw [loop_impl_IsGraph_3, hril]
              simp only [bind_some', aBin_lss, cnd_dec, g2, g3, g4, load_b, load_one (SlOf.one p2), aBin_eql, aBinb_neq, aBin_add]
              rw [if_pos (by omega), wrap64 (by omega) (by omega)]
              simp only [cnd_bool]
              have a1 : at2 l i j = ri[j] := by simp [at2, hri, List.getElem?_eq_getElem (by omega : j < ri.length)]
              have a2 : at2 l j i = rj[i] := by simp [at2, hrj, List.getElem?_eq_getElem (by omega : i < rj.length)]
              simp only [cellOk, a1, a2, Int.ofNat_inj]
              cases ri[j] <;> cases rj[i] <;> by_cases hij : i = j <;> simp [hij])
            l.length 0 (by omega)
          rw [show ((0 : Nat) : Int) = 0 from rfl] at C
          rw [C]
          by_cases hc : rowOk l i = true
          · have hc' : allF (cellOk l i) 0 l.length = true := hc
            rw [if_pos hc, if_pos hc', bind_some', k_impl_IsGraph_3_4]
            simp only [aBin_add, bind_some']
            rw [wrap64 (by omega) (by omega)]; rfl
          · have hc' : ¬ allF (cellOk l i) 0 l.length = true := hc
            rw [if_neg hc, if_neg hc', bind_some', k_impl_IsGraph_3_ret])
        l.length 0 (by omega)
      rw [show ((0 : Nat) : Int) = 0 from rfl] at B
      rw [B]
      have hle : decide (l.length ≤ 12) = true := by simp; omega
      by_cases hB : allF (rowOk l) 0 l.length = true
      · rw [if_pos hB, bind_some', k_impl_IsGraph_2_2]
        simp only [graphM, hA, hB, hle, resTup_bool, bind_some', n_st0, Bool.and_self]
      · rw [if_neg hB, bind_some', k_impl_IsGraph_2_ret]
        simp only [graphM, hA, hB, hle, resTup_bool, bind_some', n_st0, Bool.and_false]
    · rw [if_neg hA, bind_some', k_impl_IsGraph_1_ret]
      simp only [graphM, hA, resTup_bool, bind_some', n_st0, Bool.and_false, Bool.false_and]

end Go.Proofs.YtilbmpdeginabaaFw
