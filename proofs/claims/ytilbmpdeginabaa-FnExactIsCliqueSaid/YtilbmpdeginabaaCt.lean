/- What the functions that the law reaches give back. Conditions: those of each theorem. -/
import Derived.Test.YtilbmpdeginabaaEqA
namespace Go.Proofs.YtilbmpdeginabaaFw
open Go

def RB (v : AV) (b : Bool) : Prop := v = .bool b
def BS (v : AV) (l : List Bool) : Prop := SlOf 1 RB v l
def BSS (v : AV) (l : List (List Bool)) : Prop := SlOf 1 BS v l

theorem BS.plain {v : AV} {l : List Bool} (h : BS v l) : Plain v := SlOf.plain h fun _ _ hr => by cases hr; rfl
theorem BSS.plain {v : AV} {l : List (List Bool)} (h : BSS v l) : Plain v := SlOf.plain h fun _ _ hr => (BS.plain hr).1
theorem bss_in {v : AV} (h : CT.has (.sl false [.sl false [.bool]]) v) : ∃ l, BSS v l ∧ l.length ≤ maxLen ∧ ∀ r ∈ l, r.length ≤ maxLen :=
  has_sl h fun _ hx => by
    obtain ⟨l, h1, h2, _⟩ := has_sl (R := RB) (P := fun _ => True) hx fun y hy => by
      simp only [CT.has] at hy
      obtain ⟨b, rfl⟩ := hy
      exact ⟨b, rfl, trivial⟩
    exact ⟨l, h1, h2⟩

def at2 (l : List (List Bool)) (i j : Nat) : Bool := ((l[i]?).bind (·[j]?)).getD false
def lenOk (l : List (List Bool)) (i : Nat) : Bool := decide ((l[i]?).map (·.length) = some l.length)
def cellOk (l : List (List Bool)) (i j : Nat) : Bool := !(at2 l i j && decide (i = j)) && decide (at2 l i j = at2 l j i)
def rowOk (l : List (List Bool)) (i : Nat) : Bool := allF (cellOk l i) 0 l.length
def graphM (l : List (List Bool)) : Bool := decide (l.length ≤ 12) && allF (lenOk l) 0 l.length && allF (rowOk l) 0 l.length

def RI (v : AV) (i : Int) : Prop := v = .int .i64 i
def IS (v : AV) (l : List Int) : Prop := SlOf 1 RI v l
theorem IS.plain {v : AV} {l : List Int} (h : IS v l) : Plain v := SlOf.plain h fun _ _ hr => by cases hr; rfl
def i64ok (n : Int) : Prop := -9223372036854775808 ≤ n ∧ n ≤ 9223372036854775807
theorem i64_wf {n : Int} (h : (Lit.int .i64 n).wf = true) : i64ok n := by
  unfold i64ok
  simp [Lit.wf, IntKind.min, IntKind.max, IntKind.signed, IntKind.bits] at h
  omega
theorem is_in {v : AV} (h : CT.has (.sl false [.int .i64]) v) : ∃ l, IS v l ∧ l.length ≤ maxLen ∧ ∀ n ∈ l, i64ok n :=
  has_sl h fun _ hx => by
    simp only [CT.has] at hx
    obtain ⟨n, rfl, hw⟩ := hx
    exact ⟨n, rfl, i64_wf hw⟩

def vt (l : List Int) (i : Nat) : Int := (l[i]?).getD 0
def inR (n : Nat) (v : Int) : Bool := decide (0 ≤ v ∧ v ≤ (n : Int) - 1)
def adjI (g : List (List Bool)) (u v : Int) : Bool := at2 g u.toNat v.toNat
def cliqueAt (g : List (List Bool)) (l : List Int) (i : Nat) : Bool := inR g.length (vt l i) && allF (fun j => decide (vt l j < vt l i) && adjI g (vt l i) (vt l j)) 0 i
def cliqueM (g : List (List Bool)) (l : List Int) : Bool := graphM g && allF (cliqueAt g l) 0 l.length

theorem graphM_rows {g : List (List Bool)} (h : graphM g = true) : g.length ≤ 12 ∧ ∀ i, i < g.length → ∃ r, g[i]? = some r ∧ r.length = g.length := by
  unfold graphM at h
  simp only [Bool.and_eq_true, decide_eq_true_iff] at h
  refine ⟨h.1.1, fun i hi => ?_⟩
  have := allF_iff.1 h.1.2 i (Nat.zero_le i) (by omega)
  simp only [lenOk, decide_eq_true_iff, List.getElem?_eq_getElem hi, Option.map_some, Option.some.injEq] at this
  exact ⟨g[i], List.getElem?_eq_getElem hi, this⟩

/-- an element of the graph -/
theorem graph_get {x0 : AV} {g : List (List Bool)} (h0 : BSS x0 g) (h : graphM g = true) {u v : Int} (hu : 0 ≤ u ∧ u < g.length) (hv : 0 ≤ v ∧ v < g.length) (st : St) :
    ∃ e, aIaddr 1 x0 (.int .i64 u) = some (.eptr e.cells) ∧ aLoad false 1 st (.eptr e.cells) = some e ∧ aIaddr 1 e (.int .i64 v) = some (.eptr (AV.bool (adjI g u v)).cells) := by
  obtain ⟨_, hr⟩ := graphM_rows h
  obtain ⟨r, h1, h2⟩ := hr u.toNat (by omega)
  obtain ⟨e, p1, g1⟩ := SlOf.idx h0 h1
  obtain ⟨e2, rfl, g2⟩ := SlOf.idx p1 (List.getElem?_eq_getElem (by omega : v.toNat < r.length))
  have a1 : ((u.toNat : Nat) : Int) = u := by omega
  have a2 : ((v.toNat : Nat) : Int) = v := by omega
  have q1 := g1 .i64
  have q2 := g2 .i64
  rw [a1] at q1; rw [a2] at q2
  refine ⟨e, q1, load_one (SlOf.one p1), ?_⟩
  rw [q2]
  simp [adjI, at2, h1, List.getElem?_eq_getElem (by omega : v.toNat < r.length)]

theorem szBoolS_call {x0 : AV} {l : List Bool} {left : Int} (h0 : BS x0 l) (hl : l.length ≤ maxLen) (h1 : 0 ≤ left) (h2 : left ≤ 1048576) (n : Nat) : L.call i_laws_szBoolS [x0, .int .i64 left] n = some (.int .i64 (szM left l.length), n) := by
  have hl' : l.length ≤ 9223372036854775807 := hl
  rw [call_laws_szBoolS, SlOf.len h0]
  simp only [bind_some', aBin_sub, aBin_lss, cnd_dec]
  rw [wrap64 (by omega) (by omega)]
  simp only [resTup_int, bind_some', n_st0, szM]
  split <;> rfl

theorem szBoolSS_call {x0 : AV} {l : List (List Bool)} {left : Int} (h0 : BSS x0 l) (hl : l.length ≤ maxLen) (hr : ∀ r ∈ l, r.length ≤ maxLen) (h1 : 0 ≤ left) (h2 : left ≤ 1048576) (n : Nat) :
    ∃ z, L.call i_laws_szBoolSS [x0, .int .i64 left] n = some (.int .i64 z, n) ∧ (0 ≤ z → l.length ≤ left ∧ ∀ r ∈ l, r.length ≤ left) := by
  have hl' : l.length ≤ 9223372036854775807 := hl
  rw [call_laws_szBoolSS, SlOf.len h0]
  simp only [bind_some', aBin_sub, aBin_lss, cnd_dec]
  rw [wrap64 (by omega) (by omega)]
  by_cases hneg : left - l.length < 0
  · rw [if_pos hneg]
    exact ⟨-1, by simp only [resTup_int, bind_some', n_st0], fun h => by omega⟩
  · rw [if_neg hneg]
    obtain ⟨r, e1, e2⟩ := loop_inv (σ := Int) (fun i s => L.loop [0, 1, 5] [1, 4] b_laws_szBoolSS_1 [x0, .int .i64 s, .int .i64 i] (st0 n)) (fun i s => 0 ≤ s ∧ s ≤ left ∧ ∀ j, j < i → ∀ r, l[j]? = some r → r.length ≤ left)
      (fun r => (∃ s a, r = (.exit 0, [.int .i64 s, a], st0 n) ∧ ∀ r ∈ l, r.length ≤ left) ∨ ∃ a, r = (.ret, [a, .int .i64 (-1)], st0 n)) l.length
      (fun s hs => by
        rw [loop_laws_szBoolSS_1, SlOf.len h0]
        simp only [bind_some', aBin_lss, cnd_dec, Int.lt_irrefl, if_false]
        refine ⟨_, rfl, .inl ⟨_, _, rfl, fun r hr => ?_⟩⟩
        obtain ⟨j, hj, rfl⟩ := List.mem_iff_getElem.1 hr
        exact hs.2.2 j hj _ (List.getElem?_eq_getElem hj))
      (fun i s hi hs => by
        obtain ⟨e1, g1, g2⟩ := SlOf.idx h0 (List.getElem?_eq_getElem hi)
        have hrl : l[i].length ≤ 9223372036854775807 := hr _ (List.getElem_mem hi)
        rw [loop_laws_szBoolSS_1, SlOf.len h0]
        simp only [bind_some', aBin_lss, cnd_dec, g2, load_one (SlOf.one g1)]
        rw [if_pos (by omega)]
        rw [call_same (plain2 (BS.plain g1) (plain_int _ _)) (szBoolS_call g1 hrl hs.1 (by omega) _)]
        simp only [bind_some', aBin_lss, cnd_dec, aBin_add]
        rw [wrap64 (by omega) (by omega)]
        by_cases hz : szM s l[i].length < 0
        · right
          rw [if_pos hz]
          exact ⟨_, rfl, .inr ⟨_, rfl⟩⟩
        · left
          rw [if_neg hz]
          have : szM s l[i].length = s - l[i].length ∧ 0 ≤ s - l[i].length := by unfold szM at hz ⊢; split at hz <;> omega
          refine ⟨szM s l[i].length, rfl, by omega, by omega, fun j hj r hjr => ?_⟩
          by_cases ej : j = i
          · subst ej; rw [List.getElem?_eq_getElem hi] at hjr; simp at hjr; subst hjr; omega
          · exact hs.2.2 j (by omega) r hjr)
      l.length 0 (left - l.length) (by omega) ⟨by omega, by omega, fun j hj => absurd hj (by omega)⟩
    rw [show ((0 : Nat) : Int) = 0 from rfl] at e1
    rw [e1]
    rcases e2 with ⟨s, a, rfl, h⟩ | ⟨a, rfl⟩
    · exact ⟨s, by simp only [bind_some', k_laws_szBoolSS_1_0, resTup_int, n_st0], fun _ => ⟨by omega, h⟩⟩
    · exact ⟨-1, by simp only [bind_some', k_laws_szBoolSS_1_ret, resTup_int, n_st0], fun h => by omega⟩

theorem toBoolS_call {x0 : AV} {l : List Bool} (h0 : BS x0 l) (hl : l.length ≤ 2147483648) (n : Nat) : ∃ r n', L.call i_laws_toBoolS [x0] n = some (r, n') ∧ BS r l ∧ n ≤ n' := by
  rw [call_laws_toBoolS, SlOf.len h0]
  simp only [bind_some']
  rw [mkMake_ok (s := 1) (z := .bool false) (by omega) rfl rfl (by omega)]
  obtain ⟨st', es', g1, g2, g3, g4, g5⟩ := copy_loop (R := RB) (fun i st => L.loop [0, 3, 4] [2, 3] b_laws_toBoolS_1 [x0, .lsl 0 n 1 0 l.length, .int .i64 i] st) l n 1 0
    (fun i st es b hb hH hes hp => by
      have hi := (List.getElem?_eq_some_iff.1 hb).1
      obtain ⟨e1, rfl, q1⟩ := SlOf.idx h0 hb
      refine ⟨.bool b, st.n, rfl, plain_bool b, rfl, Nat.le_refl _, ?_⟩
      rw [loop_laws_toBoolS_1, SlOf.len h0]
      simp only [bind_some', aBin_lss, cnd_dec, q1, load_b, aBin_add]
      rw [if_pos (by omega), wrap64 (by omega) (by omega), iaddr_lsl hi, bind_some', store_one hH (by omega) (hp _ (List.getElem_mem _)).2 rfl]
      rfl)
    l.length 0 ((st0 n).new 1 (List.replicate l.length (.bool false))) (List.replicate l.length (.bool false)) (by omega) (new_H (st0 n) _ _) (by simp) (fun e he => by rw [List.eq_of_mem_replicate he]; exact ⟨plain_bool _, rfl⟩) (fun q e b hq => absurd hq (by omega))
  rw [show ((0 : Nat) : Int) = 0 from rfl] at g1
  show ∃ r n', (L.loop [0, 3, 4] [2, 3] b_laws_toBoolS_1 [x0, .lsl 0 n 1 0 l.length, .int .i64 0] ((st0 n).new 1 (List.replicate l.length (.bool false)))).bind k_laws_toBoolS_1 = some (r, n') ∧ BS r l ∧ n ≤ n'
  rw [g1, loop_laws_toBoolS_1, SlOf.len h0]
  simp only [bind_some', aBin_lss, cnd_dec, Int.lt_irrefl, if_false, k_laws_toBoolS_1_0]
  rw [← g3.length, resTup_lsl g2 fun e he => (g4 e he).1]
  exact ⟨_, _, rfl, ⟨es', .inr ⟨_, _, rfl⟩, g3⟩, Nat.le_trans (Nat.le_succ n) g5⟩

theorem toBoolSS_call {x0 : AV} {l : List (List Bool)} (h0 : BSS x0 l) (hl : l.length ≤ 1048576) (hr : ∀ r ∈ l, r.length ≤ 1048576) (n : Nat) : ∃ r n', L.call i_laws_toBoolSS [x0] n = some (r, n') ∧ BSS r l ∧ n ≤ n' := by
  rw [call_laws_toBoolSS, SlOf.len h0]
  simp only [bind_some']
  rw [mkMake_ok (s := 1) (z := .nils) (by omega) rfl rfl (by omega)]
  obtain ⟨st', es', g1, g2, g3, g4, g5⟩ := copy_loop (R := BS) (fun i st => L.loop [0, 3, 4] [2, 3] b_laws_toBoolSS_1 [x0, .lsl 0 n 1 0 l.length, .int .i64 i] st) l n 1 0
    (fun i st es b hb hH hes hp => by
      have hi := (List.getElem?_eq_some_iff.1 hb).1
      have hbl : b.length ≤ 1048576 := hr b (List.mem_of_getElem? hb)
      obtain ⟨e1, q0, q1⟩ := SlOf.idx h0 hb
      obtain ⟨v, n', c1, c2, c3⟩ := toBoolS_call q0 (by omega) st.n
      refine ⟨v, n', c2, BS.plain c2, SlOf.one c2, c3, ?_⟩
      rw [loop_laws_toBoolSS_1, SlOf.len h0]
      simp only [bind_some', aBin_lss, cnd_dec, q1, load_one (SlOf.one q0), aBin_add]
      rw [if_pos (by omega), wrap64 (by omega) (by omega), call_plain (plain1 (BS.plain q0)) c1, bind_some', iaddr_lsl hi, bind_some']
      simp only
      rw [store_one (st := { st with n := n' }) hH (by omega) (hp _ (List.getElem_mem _)).2 (SlOf.one c2)]
      rfl)
    l.length 0 ((st0 n).new 1 (List.replicate l.length .nils)) (List.replicate l.length .nils) (by omega) (new_H (st0 n) _ _) (by simp) (fun e he => by rw [List.eq_of_mem_replicate he]; exact ⟨plain_nils, rfl⟩) (fun q e b hq => absurd hq (by omega))
  rw [show ((0 : Nat) : Int) = 0 from rfl] at g1
  show ∃ r n', (L.loop [0, 3, 4] [2, 3] b_laws_toBoolSS_1 [x0, .lsl 0 n 1 0 l.length, .int .i64 0] ((st0 n).new 1 (List.replicate l.length .nils))).bind k_laws_toBoolSS_1 = some (r, n') ∧ BSS r l ∧ n ≤ n'
  rw [g1, loop_laws_toBoolSS_1, SlOf.len h0]
  simp only [bind_some', aBin_lss, cnd_dec, Int.lt_irrefl, if_false, k_laws_toBoolSS_1_0]
  rw [← g3.length, resTup_lsl g2 fun e he => (g4 e he).1]
  exact ⟨_, _, rfl, ⟨es', .inr ⟨_, _, rfl⟩, g3⟩, Nat.le_trans (Nat.le_succ n) g5⟩

theorem eqBoolS_call {x0 x1 : AV} {l1 l2 : List Bool} (h0 : BS x0 l1) (h1 : BS x1 l2) (hb : l1.length < 2147483648) (n : Nat) : L.call i_laws_eqBoolS [x0, x1] n = some (.bool (decide (l1 = l2)), n) := by
  rw [call_laws_eqBoolS, SlOf.len h0, SlOf.len h1]
  simp only [bind_some', aBin_neq, cnd_dec]
  by_cases hl : l1.length = l2.length
  · rw [if_neg (by omega)]
    have := loop_all (fun i => L.loop [0, 1, 5] [4] b_laws_eqBoolS_1 [x0, x1, .int .i64 i] (st0 n)) (eqAt l1 l2) l1.length (.exit 0, [.undef], st0 n) (.ret, [.bool false], st0 n)
      (by
        rw [loop_laws_eqBoolS_1, SlOf.len h0]
        simp only [bind_some', aBin_lss, cnd_dec, Int.lt_irrefl, if_false])
      (fun i hi => by
        obtain ⟨e1, rfl, g1⟩ := SlOf.idx h0 (List.getElem?_eq_getElem hi)
        obtain ⟨e2, rfl, g2⟩ := SlOf.idx h1 (List.getElem?_eq_getElem (by omega : i < l2.length))
        rw [loop_laws_eqBoolS_1, SlOf.len h0]
        simp only [bind_some', aBin_lss, cnd_dec, g1, g2, load_b, aBinb_neq, aBin_add]
        rw [if_pos (by omega), wrap64 (by omega) (by omega)]
        simp only [eqAt, List.getElem?_eq_getElem hi, List.getElem?_eq_getElem (by omega : i < l2.length), Option.some.injEq, decide_eq_true_iff, ite_not]
        rfl)
      l1.length 0 (by omega)
    rw [show ((0 : Nat) : Int) = 0 from rfl] at this
    rw [this, eqAt_all hl]
    by_cases hx : l1 = l2
    · simp only [hx, decide_true, if_true, bind_some', k_laws_eqBoolS_1_0, resTup_bool]; rfl
    · simp only [hx, decide_false, Bool.false_eq_true, if_false, bind_some', k_laws_eqBoolS_1_ret, resTup_bool]; rfl
  · rw [if_pos (by omega)]
    have : ¬ l1 = l2 := fun e => hl (by rw [e])
    simp only [resTup_bool, bind_some', this]; rfl

theorem eqBoolSS_call {x0 x1 : AV} {l1 l2 : List (List Bool)} (h0 : BSS x0 l1) (h1 : BSS x1 l2) (hb : l1.length < 2147483648) (hr : ∀ r ∈ l1, r.length < 2147483648) (n : Nat) : L.call i_laws_eqBoolSS [x0, x1] n = some (.bool (decide (l1 = l2)), n) := by
  rw [call_laws_eqBoolSS, SlOf.len h0, SlOf.len h1]
  simp only [bind_some', aBin_neq, cnd_dec]
  by_cases hl : l1.length = l2.length
  · rw [if_neg (by omega)]
    have := loop_all (fun i => L.loop [0, 1, 5] [4] b_laws_eqBoolSS_1 [x0, x1, .int .i64 i] (st0 n)) (eqAt l1 l2) l1.length (.exit 0, [.undef], st0 n) (.ret, [.bool false], st0 n)
      (by
        rw [loop_laws_eqBoolSS_1, SlOf.len h0]
        simp only [bind_some', aBin_lss, cnd_dec, Int.lt_irrefl, if_false])
      (fun i hi => by
        obtain ⟨e1, p1, g1⟩ := SlOf.idx h0 (List.getElem?_eq_getElem hi)
        obtain ⟨e2, p2, g2⟩ := SlOf.idx h1 (List.getElem?_eq_getElem (by omega : i < l2.length))
        rw [loop_laws_eqBoolSS_1, SlOf.len h0]
        simp only [bind_some', aBin_lss, cnd_dec, g1, g2, load_one (SlOf.one p1), load_one (SlOf.one p2), aBin_add]
        rw [if_pos (by omega), wrap64 (by omega) (by omega), call_same (plain2 (BS.plain p1) (BS.plain p2)) (eqBoolS_call p1 p2 (hr _ (List.getElem_mem hi)) _)]
        simp only [bind_some', aUn_not, cnd_ndec, eqAt, List.getElem?_eq_getElem hi, List.getElem?_eq_getElem (by omega : i < l2.length), Option.some.injEq, decide_eq_true_iff]
        rfl)
      l1.length 0 (by omega)
    rw [show ((0 : Nat) : Int) = 0 from rfl] at this
    rw [this, eqAt_all hl]
    by_cases hx : l1 = l2
    · simp only [hx, decide_true, if_true, bind_some', k_laws_eqBoolSS_1_0, resTup_bool]; rfl
    · simp only [hx, decide_false, Bool.false_eq_true, if_false, bind_some', k_laws_eqBoolSS_1_ret, resTup_bool]; rfl
  · rw [if_pos (by omega)]
    have : ¬ l1 = l2 := fun e => hl (by rw [e])
    simp only [resTup_bool, bind_some', this]; rfl

theorem toIntS_call {x0 : AV} {l : List Int} (h0 : IS x0 l) (hl : l.length ≤ 2147483648) (n : Nat) : ∃ r n', L.call i_laws_toIntS [x0] n = some (r, n') ∧ IS r l ∧ n ≤ n' := by
  rw [call_laws_toIntS, SlOf.len h0]
  simp only [bind_some']
  rw [mkMake_ok (s := 1) (z := (.int .i64 0)) (by omega) rfl rfl (by omega)]
  obtain ⟨st', es', g1, g2, g3, g4, g5⟩ := copy_loop (R := RI) (fun i st => L.loop [0, 3, 4] [2, 3] b_laws_toIntS_1 [x0, .lsl 0 n 1 0 l.length, .int .i64 i] st) l n 1 0
    (fun i st es b hb hH hes hp => by
      have hi := (List.getElem?_eq_some_iff.1 hb).1
      obtain ⟨e1, rfl, q1⟩ := SlOf.idx h0 hb
      refine ⟨.int .i64 b, st.n, rfl, plain_int _ _, rfl, Nat.le_refl _, ?_⟩
      rw [loop_laws_toIntS_1, SlOf.len h0]
      simp only [bind_some', aBin_lss, cnd_dec, q1, load_i, aBin_add]
      rw [if_pos (by omega), wrap64 (by omega) (by omega), iaddr_lsl hi, bind_some', store_one hH (by omega) (hp _ (List.getElem_mem _)).2 rfl]
      rfl)
    l.length 0 ((st0 n).new 1 (List.replicate l.length (.int .i64 0))) (List.replicate l.length (.int .i64 0)) (by omega) (new_H (st0 n) _ _) (by simp) (fun e he => by rw [List.eq_of_mem_replicate he]; exact ⟨plain_int _ _, rfl⟩) (fun q e b hq => absurd hq (by omega))
  rw [show ((0 : Nat) : Int) = 0 from rfl] at g1
  show ∃ r n', (L.loop [0, 3, 4] [2, 3] b_laws_toIntS_1 [x0, .lsl 0 n 1 0 l.length, .int .i64 0] ((st0 n).new 1 (List.replicate l.length (.int .i64 0)))).bind k_laws_toIntS_1 = some (r, n') ∧ IS r l ∧ n ≤ n'
  rw [g1, loop_laws_toIntS_1, SlOf.len h0]
  simp only [bind_some', aBin_lss, cnd_dec, Int.lt_irrefl, if_false, k_laws_toIntS_1_0]
  rw [← g3.length, resTup_lsl g2 fun e he => (g4 e he).1]
  exact ⟨_, _, rfl, ⟨es', .inr ⟨_, _, rfl⟩, g3⟩, Nat.le_trans (Nat.le_succ n) g5⟩

theorem eqIntS_call {x0 x1 : AV} {l1 l2 : List Int} (h0 : IS x0 l1) (h1 : IS x1 l2) (hb : l1.length < 2147483648) (n : Nat) : L.call i_laws_eqIntS [x0, x1] n = some (.bool (decide (l1 = l2)), n) := by
  rw [call_laws_eqIntS, SlOf.len h0, SlOf.len h1]
  simp only [bind_some', aBin_neq, cnd_dec]
  by_cases hl : l1.length = l2.length
  · rw [if_neg (by omega)]
    have := loop_all (fun i => L.loop [0, 1, 5] [4] b_laws_eqIntS_1 [x0, x1, .int .i64 i] (st0 n)) (eqAt l1 l2) l1.length (.exit 0, [.undef], st0 n) (.ret, [.bool false], st0 n)
      (by
        rw [loop_laws_eqIntS_1, SlOf.len h0]
        simp only [bind_some', aBin_lss, cnd_dec, Int.lt_irrefl, if_false])
      (fun i hi => by
        obtain ⟨e1, rfl, g1⟩ := SlOf.idx h0 (List.getElem?_eq_getElem hi)
        obtain ⟨e2, rfl, g2⟩ := SlOf.idx h1 (List.getElem?_eq_getElem (by omega : i < l2.length))
        rw [loop_laws_eqIntS_1, SlOf.len h0]
        simp only [bind_some', aBin_lss, cnd_dec, g1, g2, load_i, aBin_neq, aBin_add]
        rw [if_pos (by omega), wrap64 (by omega) (by omega)]
        simp only [eqAt, List.getElem?_eq_getElem hi, List.getElem?_eq_getElem (by omega : i < l2.length), Option.some.injEq, decide_eq_true_iff, ite_not]
        rfl)
      l1.length 0 (by omega)
    rw [show ((0 : Nat) : Int) = 0 from rfl] at this
    rw [this, eqAt_all hl]
    by_cases hx : l1 = l2
    · simp only [hx, decide_true, if_true, bind_some', k_laws_eqIntS_1_0, resTup_bool]; rfl
    · simp only [hx, decide_false, Bool.false_eq_true, if_false, bind_some', k_laws_eqIntS_1_ret, resTup_bool]; rfl
  · rw [if_pos (by omega)]
    have : ¬ l1 = l2 := fun e => hl (by rw [e])
    simp only [resTup_bool, bind_some', this]; rfl

theorem IsGraph_spec_call {x0 : AV} {l : List (List Bool)} (h0 : BSS x0 l) (hl : l.length ≤ 1048576) (hr : ∀ r ∈ l, r.length ≤ 1048576) (n : Nat) : L.call i_spec_IsGraph [x0] n = some (.bool (graphM l), n) := by
  rw [call_spec_IsGraph, SlOf.len h0]
  simp only [bind_some', aBin_gtr, cnd_dec]
  by_cases h12 : (12 : Int) < l.length
  · rw [if_pos h12]
    have : graphM l = false := by unfold graphM; simp; intro h; omega
    rw [this]; simp only [resTup_bool, bind_some', n_st0]
  · rw [if_neg h12]
    have A := loop_all (fun i => L.loop [0, 12, 13, 14] [0, 2] b_spec_IsGraph_1 [x0, x0, .int .i64 l.length, .int .i64 i] (st0 n)) (lenOk l) l.length (.exit 0, [x0, .undef], st0 n) (.ret, [x0, .bool false], st0 n)
      (by
        rw [loop_spec_IsGraph_1]
        simp only [bind_some', aBin_lss, cnd_dec, Int.lt_irrefl, if_false])
      (fun i hi => by
        obtain ⟨e1, p1, g1⟩ := SlOf.idx h0 (List.getElem?_eq_getElem hi)
        have := hr _ (List.getElem_mem hi)
        rw [loop_spec_IsGraph_1]
        simp only [bind_some', aBin_lss, cnd_dec, g1, load_one (SlOf.one p1), SlOf.len p1, SlOf.len h0, aBin_neq, aBin_add]
        rw [if_pos (by omega), wrap64 (by omega) (by omega)]
        simp only [lenOk, List.getElem?_eq_getElem hi, Option.map_some, Option.some.injEq, decide_eq_true_iff, ite_not, Int.ofNat_inj]
        rfl)
      l.length 0 (by omega)
    rw [show ((0 : Nat) : Int) = 0 from rfl] at A
    rw [A]
    by_cases hA : allF (lenOk l) 0 l.length = true
    · rw [if_pos hA, bind_some', k_spec_IsGraph_1_0, SlOf.len h0, bind_some']
      have hrow : ∀ i, i < l.length → ∃ r, l[i]? = some r ∧ r.length = l.length := fun i hi => by
        have := allF_iff.1 hA i (Nat.zero_le i) (by omega)
        simp only [lenOk, decide_eq_true_iff, List.getElem?_eq_getElem hi, Option.map_some, Option.some.injEq] at this
        exact ⟨l[i], List.getElem?_eq_getElem hi, this⟩
      have B := loop_all (fun i => L.loop [0, 24, 25, 26] [2] b_spec_IsGraph_2 [x0, x0, .int .i64 l.length, .int .i64 i] (st0 n)) (rowOk l) l.length (.exit 2, [.undef], st0 n) (.ret, [.bool false], st0 n)
        (by
          rw [loop_spec_IsGraph_2]
          simp only [bind_some', aBin_lss, cnd_dec, Int.lt_irrefl, if_false])
        (fun i hi => by
          obtain ⟨ri, hri, hril⟩ := hrow i hi
          obtain ⟨e1, p1, g1⟩ := SlOf.idx h0 hri
          rw [loop_spec_IsGraph_2]
          simp only [bind_some', aBin_lss, cnd_dec, g1, load_one (SlOf.one p1), SlOf.len p1]
          rw [if_pos (by omega)]
          have C := loop_all (fun j => L.loop [0, 5, 24, 25, 26, 31, 32, 33] [0, 2, 24, 25, 26] b_spec_IsGraph_3 [x0, .int .i64 i, x0, .int .i64 l.length, .int .i64 i, e1, .int .i64 ri.length, .int .i64 j] (st0 n)) (cellOk l i) l.length
            (.exit 4, [x0, .undef, x0, .int .i64 l.length, .int .i64 i], st0 n) (.ret, [x0, .bool false, x0, .int .i64 l.length, .int .i64 i], st0 n)
            (by
              rw [loop_spec_IsGraph_3, hril]
              simp only [bind_some', aBin_lss, cnd_dec, Int.lt_irrefl, if_false])
            (fun j hj => by
              obtain ⟨rj, hrj, hrjl⟩ := hrow j hj
              obtain ⟨e2, p2, g2⟩ := SlOf.idx h0 hrj
              obtain ⟨e3, rfl, g3⟩ := SlOf.idx p1 (List.getElem?_eq_getElem (by omega : j < ri.length))
              obtain ⟨e4, rfl, g4⟩ := SlOf.idx p2 (List.getElem?_eq_getElem (by omega : i < rj.length))
              rw [loop_spec_IsGraph_3, hril]
              simp only [bind_some', aBin_lss, cnd_dec, g2, g3, g4, load_b, load_one (SlOf.one p2), aBin_eql, aBinb_neq, aBin_add]
              rw [if_pos (by omega), wrap64 (by omega) (by omega)]
              simp only [cnd_bool]
              have a1 : at2 l i j = ri[j] := by simp [at2, hri, List.getElem?_eq_getElem (by omega : j < ri.length)]
              have a2 : at2 l j i = rj[i] := by simp [at2, hrj, List.getElem?_eq_getElem (by omega : i < rj.length)]
              simp only [cellOk, a1, a2, Int.ofNat_inj]
              cases ri[j] <;> cases rj[i] <;> by_cases hij : i = j <;> simp [hij])
            l.length 0 (by omega)
          rw [show ((0 : Nat) : Int) = 0 from rfl] at C
          rw [C]
          by_cases hc : rowOk l i = true
          · have hc' : allF (cellOk l i) 0 l.length = true := hc
            rw [if_pos hc, if_pos hc', bind_some', k_spec_IsGraph_3_4]
            simp only [aBin_add, bind_some']
            rw [wrap64 (by omega) (by omega)]; rfl
          · have hc' : ¬ allF (cellOk l i) 0 l.length = true := hc
            rw [if_neg hc, if_neg hc', bind_some', k_spec_IsGraph_3_ret])
        l.length 0 (by omega)
      rw [show ((0 : Nat) : Int) = 0 from rfl] at B
      rw [B]
      have hle : decide (l.length ≤ 12) = true := by simp; omega
      by_cases hB : allF (rowOk l) 0 l.length = true
      · rw [if_pos hB, bind_some', k_spec_IsGraph_2_2]
        simp only [graphM, hA, hB, hle, resTup_bool, bind_some', n_st0, Bool.and_self]
      · rw [if_neg hB, bind_some', k_spec_IsGraph_2_ret]
        simp only [graphM, hA, hB, hle, resTup_bool, bind_some', n_st0, Bool.and_false]
    · rw [if_neg hA, bind_some', k_spec_IsGraph_1_ret]
      simp only [graphM, hA, resTup_bool, bind_some', n_st0, Bool.and_false, Bool.false_and]

theorem l01In_call (a b c : Int) (n : Nat) : L.call i_spec_l01In [.int .i64 a, .int .i64 b, .int .i64 c] n = some (.bool (decide (b ≤ a ∧ a ≤ c)), n) := by
  rw [call_spec_l01In]
  simp only [aBin_geq, bind_some', cnd_dec, aBin_leq, resTup_bool, n_st0]
  by_cases h : b ≤ a <;> simp [h]

theorem IsClique_spec_call {x0 x1 : AV} {g : List (List Bool)} {l : List Int} (h0 : BSS x0 g) (h1 : IS x1 l) (hl : g.length ≤ 1048576) (hr : ∀ r ∈ g, r.length ≤ 1048576) (hl1 : l.length ≤ 1048576) (n : Nat) : L.call i_spec_IsClique [x0, x1] n = some (.bool (cliqueM g l), n) := by
  rw [call_spec_IsClique, call_same (plain1 h0.plain) (IsGraph_spec_call h0 hl hr _)]
  simp only [bind_some', aUn_not, cnd_nbool]
  by_cases hg : graphM g = true
  · rw [if_pos hg, SlOf.len h1, bind_some']
    obtain ⟨h12, _⟩ := graphM_rows hg
    have A := loop_allp (fun i => L.loop [0, 1, 12, 13, 14] [4] b_spec_IsClique_1 [x0, x1, x1, .int .i64 l.length, .int .i64 i] (st0 n)) (cliqueAt g l) l.length (.exit 0, [.undef], st0 n) (.ret, [.bool false], st0 n)
      (by
        rw [loop_spec_IsClique_1]
        simp only [bind_some', aBin_lss, cnd_dec, Int.lt_irrefl, if_false])
      (fun i hi hp => by
        obtain ⟨e1, rfl, g1⟩ := SlOf.idx h1 (List.getElem?_eq_getElem hi)
        obtain ⟨x2, s1, s2⟩ := SlOf.upto h1 (k := .i64) (i := i) (by omega)
        have hlen : (l.take i).length = i := by simp; omega
        have hvt : vt l i = l[i] := by simp [vt, List.getElem?_eq_getElem hi]
        rw [loop_spec_IsClique_1]
        simp only [bind_some', aBin_lss, cnd_dec, g1, load_i, SlOf.len h0, aBin_sub]
        rw [if_pos (by omega), wrap64 (by omega) (by omega), call_same (plain3 (plain_int _ _) (plain_int _ _) (plain_int _ _)) (l01In_call _ _ _ _)]
        simp only [bind_some', aUn_not, cnd_ndec]
        by_cases hin : 0 ≤ l[i] ∧ l[i] ≤ (g.length : Int) - 1
        · have hin' : inR g.length (vt l i) = true := by rw [hvt]; simp [inR, hin]
          rw [if_pos hin, s1]
          simp only [bind_some', SlOf.len s2, hlen]
          have C := loop_all (fun j => L.loop [0, 1, 6, 12, 13, 14, 27, 28, 29] [0, 1, 4, 12, 13, 14] b_spec_IsClique_2 [x0, x1, .int .i64 l[i], x1, .int .i64 l.length, .int .i64 i, x2, .int .i64 i, .int .i64 j] (st0 n))
            (fun j => decide (vt l j < vt l i) && adjI g (vt l i) (vt l j)) i (.exit 2, [x0, x1, .undef, x1, .int .i64 l.length, .int .i64 i], st0 n) (.ret, [x0, x1, .bool false, x1, .int .i64 l.length, .int .i64 i], st0 n)
            (by
              rw [loop_spec_IsClique_2]
              simp only [bind_some', aBin_lss, cnd_dec, Int.lt_irrefl, if_false])
            (fun j hj => by
              have hjl : (l.take i)[j]? = some l[j] := by rw [List.getElem?_take_of_lt hj, List.getElem?_eq_getElem (by omega)]
              obtain ⟨e2, rfl, g2⟩ := SlOf.idx s2 hjl
              have hvj : vt l j = l[j] := by simp [vt, List.getElem?_eq_getElem (by omega : j < l.length)]
              have hpj := hp j hj
              simp only [cliqueAt, Bool.and_eq_true, inR, decide_eq_true_iff, hvj] at hpj
              rw [loop_spec_IsClique_2]
              simp only [bind_some', aBin_lss, cnd_dec, g2, load_i, aBin_geq, aBin_add]
              rw [if_pos (by omega), wrap64 (by omega) (by omega), hvt, hvj]
              by_cases hlt : l[j] < l[i]
              · rw [if_neg (by omega)]
                obtain ⟨e, q1, q2, q3⟩ := graph_get h0 hg (u := l[i]) (v := l[j]) (by omega) (by omega) (st0 n)
                simp only [q1, q2, q3, bind_some', load_b, aUn_not, cnd_nbool, hlt, decide_true, Bool.true_and]
                rfl
              · rw [if_pos (by omega)]
                simp [hlt])
            i 0 (by omega)
          rw [show ((0 : Nat) : Int) = 0 from rfl] at C
          rw [C]
          by_cases hc : allF (fun j => decide (vt l j < vt l i) && adjI g (vt l i) (vt l j)) 0 i = true
          · have hc' : cliqueAt g l i = true := by simp only [cliqueAt, hin', hc, Bool.and_self]
            rw [if_pos hc, if_pos hc', bind_some', k_spec_IsClique_2_2]
            simp only [aBin_add, bind_some']
            rw [wrap64 (by omega) (by omega)]; rfl
          · have hc' : ¬ cliqueAt g l i = true := by simp only [cliqueAt, hin', hc, Bool.true_and]; exact Bool.false_ne_true
            rw [if_neg hc, if_neg hc', bind_some', k_spec_IsClique_2_ret]
        · have hc' : ¬ cliqueAt g l i = true := by
            have : inR g.length (vt l i) = false := by rw [hvt]; simp only [inR, hin, decide_false]
            simp only [cliqueAt, this, Bool.false_and]; exact Bool.false_ne_true
          rw [if_neg hin, if_neg hc'])
      l.length 0 (by omega) (fun j hj => absurd hj (by omega))
    rw [show ((0 : Nat) : Int) = 0 from rfl] at A
    rw [A]
    by_cases hA : allF (cliqueAt g l) 0 l.length = true
    · rw [if_pos hA, bind_some', k_spec_IsClique_1_0]
      simp only [cliqueM, hg, hA, resTup_bool, bind_some', n_st0, Bool.and_self]
    · rw [if_neg hA, bind_some', k_spec_IsClique_1_ret]
      simp only [cliqueM, hg, hA, resTup_bool, bind_some', n_st0, Bool.and_false]
  · rw [if_neg hg]
    simp only [cliqueM, hg, resTup_bool, bind_some', n_st0, Bool.false_and]

theorem IsGraph_impl_call {x0 : AV} {l : List (List Bool)} (h0 : BSS x0 l) (hl : l.length ≤ 1048576) (hr : ∀ r ∈ l, r.length ≤ 1048576) (n : Nat) : L.call i_impl_IsGraph [x0] n = some (.bool (graphM l), n) := by
  rw [call_impl_IsGraph, SlOf.len h0]
  simp only [bind_some', aBin_gtr, cnd_dec]
  by_cases h12 : (12 : Int) < l.length
  · rw [if_pos h12]
    have : graphM l = false := by unfold graphM; simp; intro h; omega
    rw [this]; simp only [resTup_bool, bind_some', n_st0]
  · rw [if_neg h12]
    have A := loop_all (fun i => L.loop [0, 3, 14, 15, 16] [0, 2] b_impl_IsGraph_1 [x0, .int .i64 l.length, x0, .int .i64 l.length, .int .i64 i] (st0 n)) (lenOk l) l.length (.exit 0, [x0, .undef], st0 n) (.ret, [x0, .bool false], st0 n)
      (by
        rw [loop_impl_IsGraph_1]
        simp only [bind_some', aBin_lss, cnd_dec, Int.lt_irrefl, if_false])
      (fun i hi => by
        obtain ⟨e1, p1, g1⟩ := SlOf.idx h0 (List.getElem?_eq_getElem hi)
        have := hr _ (List.getElem_mem hi)
        rw [loop_impl_IsGraph_1]
        simp only [bind_some', aBin_lss, cnd_dec, g1, load_one (SlOf.one p1), SlOf.len p1, aBin_neq, aBin_add]
        rw [if_pos (by omega), wrap64 (by omega) (by omega)]
        simp only [lenOk, List.getElem?_eq_getElem hi, Option.map_some, Option.some.injEq, decide_eq_true_iff, ite_not, Int.ofNat_inj]
        rfl)
      l.length 0 (by omega)
    rw [show ((0 : Nat) : Int) = 0 from rfl] at A
    rw [A]
    by_cases hA : allF (lenOk l) 0 l.length = true
    · rw [if_pos hA, bind_some', k_impl_IsGraph_1_0, SlOf.len h0, bind_some']
      have hrow : ∀ i, i < l.length → ∃ r, l[i]? = some r ∧ r.length = l.length := fun i hi => by
        have := allF_iff.1 hA i (Nat.zero_le i) (by omega)
        simp only [lenOk, decide_eq_true_iff, List.getElem?_eq_getElem hi, Option.map_some, Option.some.injEq] at this
        exact ⟨l[i], List.getElem?_eq_getElem hi, this⟩
      have B := loop_all (fun i => L.loop [0, 25, 26, 27] [2] b_impl_IsGraph_2 [x0, x0, .int .i64 l.length, .int .i64 i] (st0 n)) (rowOk l) l.length (.exit 2, [.undef], st0 n) (.ret, [.bool false], st0 n)
        (by
          rw [loop_impl_IsGraph_2]
          simp only [bind_some', aBin_lss, cnd_dec, Int.lt_irrefl, if_false])
        (fun i hi => by
          obtain ⟨ri, hri, hril⟩ := hrow i hi
          obtain ⟨e1, p1, g1⟩ := SlOf.idx h0 hri
          rw [loop_impl_IsGraph_2]
          simp only [bind_some', aBin_lss, cnd_dec, g1, load_one (SlOf.one p1), SlOf.len p1]
          rw [if_pos (by omega)]
          have C := loop_all (fun j => L.loop [0, 6, 25, 26, 27, 32, 33, 34] [0, 2, 25, 26, 27] b_impl_IsGraph_3 [x0, .int .i64 i, x0, .int .i64 l.length, .int .i64 i, e1, .int .i64 ri.length, .int .i64 j] (st0 n)) (cellOk l i) l.length
            (.exit 4, [x0, .undef, x0, .int .i64 l.length, .int .i64 i], st0 n) (.ret, [x0, .bool false, x0, .int .i64 l.length, .int .i64 i], st0 n)
            (by
              rw [loop_impl_IsGraph_3, hril]
              simp only [bind_some', aBin_lss, cnd_dec, Int.lt_irrefl, if_false])
            (fun j hj => by
              obtain ⟨rj, hrj, hrjl⟩ := hrow j hj
              obtain ⟨e2, p2, g2⟩ := SlOf.idx h0 hrj
              obtain ⟨e3, rfl, g3⟩ := SlOf.idx p1 (List.getElem?_eq_getElem (by omega : j < ri.length))
              obtain ⟨e4, rfl, g4⟩ := SlOf.idx p2 (List.getElem?_eq_getElem (by omega : i < rj.length))
              rw [loop_impl_IsGraph_3, hril]
              simp only [bind_some', aBin_lss, cnd_dec, g2, g3, g4, load_b, load_one (SlOf.one p2), aBin_eql, aBinb_neq, aBin_add]
              rw [if_pos (by omega), wrap64 (by omega) (by omega)]
              simp only [cnd_bool]
              have a1 : at2 l i j = ri[j] := by simp [at2, hri, List.getElem?_eq_getElem (by omega : j < ri.length)]
              have a2 : at2 l j i = rj[i] := by simp [at2, hrj, List.getElem?_eq_getElem (by omega : i < rj.length)]
              simp only [cellOk, a1, a2, Int.ofNat_inj]
              cases ri[j] <;> cases rj[i] <;> by_cases hij : i = j <;> simp [hij])
            l.length 0 (by omega)
          rw [show ((0 : Nat) : Int) = 0 from rfl] at C
          rw [C]
          by_cases hc : rowOk l i = true
          · have hc' : allF (cellOk l i) 0 l.length = true := hc
            rw [if_pos hc, if_pos hc', bind_some', k_impl_IsGraph_3_4]
            simp only [aBin_add, bind_some']
            rw [wrap64 (by omega) (by omega)]; rfl
          · have hc' : ¬ allF (cellOk l i) 0 l.length = true := hc
            rw [if_neg hc, if_neg hc', bind_some', k_impl_IsGraph_3_ret])
        l.length 0 (by omega)
      rw [show ((0 : Nat) : Int) = 0 from rfl] at B
      rw [B]
      have hle : decide (l.length ≤ 12) = true := by simp; omega
      by_cases hB : allF (rowOk l) 0 l.length = true
      · rw [if_pos hB, bind_some', k_impl_IsGraph_2_2]
        simp only [graphM, hA, hB, hle, resTup_bool, bind_some', n_st0, Bool.and_self]
      · rw [if_neg hB, bind_some', k_impl_IsGraph_2_ret]
        simp only [graphM, hA, hB, hle, resTup_bool, bind_some', n_st0, Bool.and_false]
    · rw [if_neg hA, bind_some', k_impl_IsGraph_1_ret]
      simp only [graphM, hA, resTup_bool, bind_some', n_st0, Bool.and_false, Bool.false_and]

def adjAll (g : List (List Bool)) (l : List Int) : Bool := allF (fun i => allF (fun j => adjI g (vt l j) (vt l i)) 0 i) 0 l.length

theorem allAdjacent_call {x0 x1 : AV} {g : List (List Bool)} {l : List Int} (h0 : BSS x0 g) (h1 : IS x1 l) (hg : graphM g = true) (hin : ∀ i, i < l.length → inR g.length (vt l i) = true) (hl1 : l.length ≤ 1048576) (n : Nat) :
    L.call i_impl_allAdjacent [x0, x1] n = some (.bool (adjAll g l), n) := by
  rw [call_impl_allAdjacent, SlOf.len h1, bind_some']
  obtain ⟨h12, _⟩ := graphM_rows hg
  have A := loop_all (fun i => L.loop [0, 1, 9, 10, 11] [4] b_impl_allAdjacent_1 [x0, x1, x1, .int .i64 l.length, .int .i64 i] (st0 n)) (fun i => allF (fun j => adjI g (vt l j) (vt l i)) 0 i) l.length (.exit 0, [.undef], st0 n) (.ret, [.bool false], st0 n)
    (by
      rw [loop_impl_allAdjacent_1]
      simp only [bind_some', aBin_lss, cnd_dec, Int.lt_irrefl, if_false])
    (fun i hi => by
      obtain ⟨e1, rfl, g1⟩ := SlOf.idx h1 (List.getElem?_eq_getElem hi)
      obtain ⟨x2, s1, s2⟩ := SlOf.upto h1 (k := .i64) (i := i) (by omega)
      have hlen : (l.take i).length = i := by simp; omega
      have hvt : vt l i = l[i] := by simp [vt, List.getElem?_eq_getElem hi]
      have hpi := hin i hi
      simp only [inR, decide_eq_true_iff, hvt] at hpi
      rw [loop_impl_allAdjacent_1]
      simp only [bind_some', aBin_lss, cnd_dec, g1, load_i, s1, SlOf.len s2, hlen]
      rw [if_pos (by omega)]
      have C := loop_all (fun j => L.loop [0, 1, 6, 9, 10, 11, 18, 19, 20] [0, 1, 4, 9, 10, 11] b_impl_allAdjacent_2 [x0, x1, .int .i64 l[i], x1, .int .i64 l.length, .int .i64 i, x2, .int .i64 i, .int .i64 j] (st0 n))
        (fun j => adjI g (vt l j) (vt l i)) i (.exit 2, [x0, x1, .undef, x1, .int .i64 l.length, .int .i64 i], st0 n) (.ret, [x0, x1, .bool false, x1, .int .i64 l.length, .int .i64 i], st0 n)
        (by
          rw [loop_impl_allAdjacent_2]
          simp only [bind_some', aBin_lss, cnd_dec, Int.lt_irrefl, if_false])
        (fun j hj => by
          have hjl : (l.take i)[j]? = some l[j] := by rw [List.getElem?_take_of_lt hj, List.getElem?_eq_getElem (by omega)]
          obtain ⟨e2, rfl, g2⟩ := SlOf.idx s2 hjl
          have hvj : vt l j = l[j] := by simp [vt, List.getElem?_eq_getElem (by omega : j < l.length)]
          have hpj := hin j (by omega)
          simp only [inR, decide_eq_true_iff, hvj] at hpj
          rw [loop_impl_allAdjacent_2]
          simp only [bind_some', aBin_lss, cnd_dec, g2, load_i, aBin_add]
          rw [if_pos (by omega), wrap64 (by omega) (by omega), hvt, hvj]
          obtain ⟨e, q1, q2, q3⟩ := graph_get h0 hg (u := l[j]) (v := l[i]) (by omega) (by omega) (st0 n)
          simp only [q1, q2, q3, bind_some', load_b, aUn_not, cnd_nbool]
          rfl)
        i 0 (by omega)
      rw [show ((0 : Nat) : Int) = 0 from rfl] at C
      rw [C]
      by_cases hc : allF (fun j => adjI g (vt l j) (vt l i)) 0 i = true
      · rw [if_pos hc, if_pos hc, bind_some', k_impl_allAdjacent_2_2]
        simp only [aBin_add, bind_some']
        rw [wrap64 (by omega) (by omega)]; rfl
      · rw [if_neg hc, if_neg hc, bind_some', k_impl_allAdjacent_2_ret])
    l.length 0 (by omega)
  rw [show ((0 : Nat) : Int) = 0 from rfl] at A
  rw [A]
  by_cases hA : adjAll g l = true
  · have hA' := hA
    unfold adjAll at hA'
    rw [if_pos hA', bind_some', k_impl_allAdjacent_1_0]
    simp only [hA, resTup_bool, bind_some', n_st0]
  · have hA' := hA
    unfold adjAll at hA'
    rw [if_neg hA', bind_some', k_impl_allAdjacent_1_ret]
    simp only [hA, resTup_bool, bind_some', n_st0]

def stepAt (g : List (List Bool)) (l : List Int) (i : Nat) : Bool := inR g.length (vt l i) && (decide (i = 0) || decide (vt l (i - 1) < vt l i))

theorem adj_symm {g : List (List Bool)} (hg : graphM g = true) {u v : Int} (hu : inR g.length u = true) (hv : inR g.length v = true) : adjI g u v = adjI g v u := by
  simp only [inR, decide_eq_true_iff] at hu hv
  unfold graphM at hg
  simp only [Bool.and_eq_true] at hg
  have h1 := allF_iff.1 hg.2 u.toNat (Nat.zero_le _) (by omega)
  have h2 := allF_iff.1 h1 v.toNat (Nat.zero_le _) (by omega)
  simp only [cellOk, Bool.and_eq_true, decide_eq_true_iff] at h2
  exact h2.2

theorem clique_same {g : List (List Bool)} {l : List Int} (hg : graphM g = true) : (allF (stepAt g l) 0 l.length && adjAll g l) = cliqueM g l := by
  rw [Bool.eq_iff_iff, Bool.and_eq_true]
  simp only [cliqueM, hg, Bool.true_and, adjAll, allF_iff]
  constructor
  · rintro ⟨h1, h2⟩ i hi hil
    have hs : ∀ d j, j + d < l.length → 0 < d → vt l j < vt l (j + d) := by
      intro d
      induction d with
      | zero => intro j _ h; omega
      | succ d ih =>
        intro j hj _
        have h3 := h1 (j + d + 1) (Nat.zero_le _) (by omega)
        simp only [stepAt, Bool.and_eq_true, Bool.or_eq_true, decide_eq_true_iff] at h3
        have h4 : vt l (j + d) < vt l (j + d + 1) := by
          have := h3.2.resolve_left (by omega)
          simpa using this
        by_cases hd : d = 0
        · subst hd; exact h4
        · exact Int.lt_trans (ih j (by omega) (by omega)) h4
    have hr : ∀ j, j < l.length → inR g.length (vt l j) = true := fun j hj => by
      have := h1 j (Nat.zero_le _) (by omega)
      simp only [stepAt, Bool.and_eq_true] at this
      exact this.1
    simp only [cliqueAt, Bool.and_eq_true, allF_iff]
    refine ⟨hr i (by omega), fun j hj hji => ⟨?_, ?_⟩⟩
    · have := hs (i - j) j (by omega) (by omega)
      rw [show j + (i - j) = i by omega] at this
      exact decide_eq_true this
    · rw [adj_symm hg (hr i (by omega)) (hr j (by omega))]
      exact h2 i hi hil j hj hji
  · intro h
    have hr : ∀ j, j < l.length → inR g.length (vt l j) = true := fun j hj => by
      have := h j (Nat.zero_le _) (by omega)
      simp only [cliqueAt, Bool.and_eq_true] at this
      exact this.1
    have hc : ∀ i j, i < l.length → j < i → vt l j < vt l i ∧ adjI g (vt l i) (vt l j) = true := fun i j hi hj => by
      have := h i (Nat.zero_le _) (by omega)
      simp only [cliqueAt, Bool.and_eq_true, allF_iff, decide_eq_true_iff] at this
      exact this.2 j (Nat.zero_le _) (by omega)
    refine ⟨fun i hi hil => ?_, fun i hi hil j hj hji => ?_⟩
    · simp only [stepAt, Bool.and_eq_true, Bool.or_eq_true, decide_eq_true_iff]
      refine ⟨hr i (by omega), ?_⟩
      by_cases h0 : i = 0
      · exact .inl h0
      · exact .inr (hc i (i - 1) (by omega) (by omega)).1
    · rw [adj_symm hg (hr j (by omega)) (hr i (by omega))]
      exact (hc i j (by omega) (by omega)).2

theorem IsClique_impl_call {x0 x1 : AV} {g : List (List Bool)} {l : List Int} (h0 : BSS x0 g) (h1 : IS x1 l) (hl : g.length ≤ 1048576) (hr : ∀ r ∈ g, r.length ≤ 1048576) (hl1 : l.length ≤ 1048576) (n : Nat) : L.call i_impl_IsClique [x0, x1] n = some (.bool (cliqueM g l), n) := by
  rw [call_impl_IsClique, call_same (plain1 h0.plain) (IsGraph_impl_call h0 hl hr _)]
  simp only [bind_some', aUn_not, cnd_nbool]
  by_cases hg : graphM g = true
  · rw [if_pos hg, SlOf.len h1, bind_some', ← clique_same hg]
    have A := loop_all (fun i => L.loop [0, 1, 10, 11, 12] [0, 1, 4] b_impl_IsClique_1 [x0, x1, x1, .int .i64 l.length, .int .i64 i] (st0 n)) (stepAt g l) l.length (.exit 0, [x0, x1, .undef], st0 n) (.ret, [x0, x1, .bool false], st0 n)
      (by
        rw [loop_impl_IsClique_1]
        simp only [bind_some', aBin_lss, cnd_dec, Int.lt_irrefl, if_false])
      (fun i hi => by
        obtain ⟨e1, rfl, g1⟩ := SlOf.idx h1 (List.getElem?_eq_getElem hi)
        have hvt : vt l i = l[i] := by simp [vt, List.getElem?_eq_getElem hi]
        rw [loop_impl_IsClique_1]
        simp only [bind_some', aBin_lss, aBin_geq, aBin_gtr, aBin_sub, aBin_add, cnd_dec, g1, load_i, SlOf.len h0]
        rw [if_pos (by omega), wrap64 (x := (i : Int) + 1) (by omega) (by omega)]
        simp only [stepAt, inR, hvt]
        by_cases a1 : l[i] < 0
        · have : ¬ (0 ≤ l[i] ∧ l[i] ≤ (g.length : Int) - 1) := by omega
          simp [a1, this]
        · rw [if_neg a1]
          by_cases a2 : (g.length : Int) ≤ l[i]
          · have : ¬ (0 ≤ l[i] ∧ l[i] ≤ (g.length : Int) - 1) := by omega
            simp [a2, this]
          · rw [if_neg a2]
            have a3 : (0 ≤ l[i] ∧ l[i] ≤ (g.length : Int) - 1) := by omega
            by_cases a4 : i = 0
            · subst a4; simp [a3]
            · rw [if_pos (by omega), wrap64 (by omega) (by omega)]
              obtain ⟨e2, rfl, g2⟩ := SlOf.idx h1 (List.getElem?_eq_getElem (by omega : i - 1 < l.length))
              have hvp : vt l (i - 1) = l[i - 1] := by simp [vt, List.getElem?_eq_getElem (by omega : i - 1 < l.length)]
              have a5 : (i : Int) - 1 = ((i - 1 : Nat) : Int) := by omega
              rw [a5, g2]
              simp only [bind_some', load_i, aBin_geq, cnd_dec, hvp]
              by_cases a6 : l[i - 1] < l[i]
              · rw [if_neg (by omega)]; simp [a3, a6]
              · rw [if_pos (by omega)]; simp [a4, a6])
      l.length 0 (by omega)
    rw [show ((0 : Nat) : Int) = 0 from rfl] at A
    rw [A]
    by_cases hA : allF (stepAt g l) 0 l.length = true
    · rw [if_pos hA, bind_some', k_impl_IsClique_1_0]
      rw [call_same (plain2 h0.plain h1.plain) (allAdjacent_call h0 h1 hg (fun i hi => by
        have := allF_iff.1 hA i (Nat.zero_le _) (by omega)
        simp only [stepAt, Bool.and_eq_true] at this
        exact this.1) hl1 _)]
      simp only [hA, resTup_bool, bind_some', n_st0, Bool.true_and]
    · rw [if_neg hA, bind_some', k_impl_IsClique_1_ret]
      simp only [hA, resTup_bool, bind_some', n_st0, Bool.false_and]
  · rw [if_neg hg]
    simp only [cliqueM, hg, resTup_bool, bind_some', n_st0, Bool.false_and]

end Go.Proofs.YtilbmpdeginabaaFw
