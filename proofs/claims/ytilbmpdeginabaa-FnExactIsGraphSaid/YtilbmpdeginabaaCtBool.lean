/- Slices of bools, and slices of those. Conditions: lengths below 2^31. -/
import Derived.Test.YtilbmpdeginabaaFw22
import Derived.Test.YtilbmpdeginabaaEqA
namespace Go.Proofs.YtilbmpdeginabaaFw
open Go

def RB (v : AV) (b : Bool) : Prop := v = .bool b
def BS (v : AV) (l : List Bool) : Prop := SlOf 1 RB v l
def BSS (v : AV) (l : List (List Bool)) : Prop := SlOf 1 BS v l

theorem BS.idx {v : AV} {l : List Bool} (h : BS v l) {i : Nat} {b : Bool} (hb : l[i]? = some b) (st : St) (k : IntKind) : ((aIaddr 1 v (.int k (i : Int))).bind fun p => aLoad false 1 st p) = some (.bool b) := by
  obtain ⟨e, rfl, h2⟩ := SlOf.idx h hb
  rw [h2 k]; rfl

theorem IsSl.one {s : Nat} {v : AV} {es : List AV} (h : IsSl s v es) : v.one = true := by
  rcases h with ⟨rfl, rfl⟩ | ⟨t, off, rfl⟩ <;> rfl
theorem IsSl.tree {s : Nat} {v : AV} {es : List AV} (h : IsSl s v es) (k : treeL es = true) : v.tree = true := by
  rcases h with ⟨rfl, rfl⟩ | ⟨t, off, rfl⟩
  · rfl
  · simp only [AV.tree]; exact k
theorem SlOf.plain {α : Type} {s : Nat} {R : AV → α → Prop} {v : AV} {l : List α} (h : SlOf s R v l) (hR : ∀ e b, R e b → e.tree = true) : Plain v := by
  obtain ⟨es, h1, h2⟩ := h
  refine ⟨h1.tree (treeL_iff.2 fun x hx => ?_), .inl h1.one⟩
  obtain ⟨i, hi, rfl⟩ := List.mem_iff_getElem.1 hx
  have hl := h2.length
  obtain ⟨a, h3, h4⟩ := h2.get i (l[i]'(by omega)) (List.getElem?_eq_getElem (by omega))
  rw [List.getElem?_eq_getElem hi] at h3
  simp at h3; subst h3; exact hR _ _ h4
theorem SlOf.one {α : Type} {s : Nat} {R : AV → α → Prop} {v : AV} {l : List α} (h : SlOf s R v l) : v.one = true := by
  obtain ⟨es, h, _⟩ := h; exact h.one
theorem BS.plain {v : AV} {l : List Bool} (h : BS v l) : Plain v := SlOf.plain h fun _ _ hr => by cases hr; rfl
theorem BSS.plain {v : AV} {l : List (List Bool)} (h : BSS v l) : Plain v := SlOf.plain h fun _ _ hr => (BS.plain hr).1

/-- the elements alike -/
def eqAt {α : Type} [DecidableEq α] (l1 l2 : List α) (i : Nat) : Bool := decide (l1[i]? = l2[i]?)

theorem eqAt_all {α : Type} [DecidableEq α] {l1 l2 : List α} (hl : l1.length = l2.length) : allF (eqAt l1 l2) 0 l1.length = decide (l1 = l2) := by
  rw [Bool.eq_iff_iff, allF_iff, decide_eq_true_iff]
  constructor
  · intro h
    apply List.ext_getElem? fun i => ?_
    by_cases hi : i < l1.length
    · simpa [eqAt] using h i (Nat.zero_le i) (by omega)
    · rw [List.getElem?_eq_none (by omega), List.getElem?_eq_none (by omega)]
  · rintro rfl j _ _
    simp [eqAt]

theorem eqBoolS_call {x0 x1 : AV} {l1 l2 : List Bool} (h0 : BS x0 l1) (h1 : BS x1 l2) (hb : l1.length < 2147483648) (n : Nat) : L.call i_laws_eqBoolS [x0, x1] n = some (.bool (decide (l1 = l2)), n) := by
  rw [call_laws_eqBoolS, SlOf.len h0, SlOf.len h1]
  simp only [bind_some', aBin_neq, cnd_dec]
  by_cases hl : l1.length = l2.length
  · rw [if_neg (by omega)]
    have := loop_all (fun i => L.loop [0, 1, 5] [4] b_laws_eqBoolS_1 [x0, x1, .int .i64 i] (st0 n)) (eqAt l1 l2) l1.length (.exit 0, [.undef], st0 n) (.ret, [.bool false], st0 n)
      (by
        rw [loop_laws_eqBoolS_1, SlOf.len h0]
        simp only [bind_some', aBin_lss, cnd_dec, Int.lt_irrefl, if_false])
      (fun i hi => by
        obtain ⟨e1, rfl, g1⟩ := SlOf.idx h0 (List.getElem?_eq_getElem hi)
        obtain ⟨e2, rfl, g2⟩ := SlOf.idx h1 (List.getElem?_eq_getElem (by omega : i < l2.length))
        rw [loop_laws_eqBoolS_1, SlOf.len h0]
        simp only [bind_some', aBin_lss, cnd_dec, g1, g2, load_b, aBinb_neq, aBin_add]
        rw [if_pos (by omega), wrap64 (by omega) (by omega)]
        simp only [eqAt, List.getElem?_eq_getElem hi, List.getElem?_eq_getElem (by omega : i < l2.length), Option.some.injEq, decide_eq_true_iff, ite_not]
        rfl)
      l1.length 0 (by omega)
    rw [show ((0 : Nat) : Int) = 0 from rfl] at this
    rw [this, eqAt_all hl]
    by_cases hx : l1 = l2
    · simp only [hx, decide_true, if_true, bind_some', k_laws_eqBoolS_1_0, resTup_bool]; rfl
    · simp only [hx, decide_false, Bool.false_eq_true, if_false, bind_some', k_laws_eqBoolS_1_ret, resTup_bool]; rfl
  · rw [if_pos (by omega)]
    have : ¬ l1 = l2 := fun e => hl (by rw [e])
    simp only [resTup_bool, bind_some', this]; rfl

/-! ### how much is left -/
def szM (left : Int) (len : Nat) : Int := if left - len < 0 then -1 else left - len

theorem szBoolS_call {x0 : AV} {l : List Bool} {left : Int} (h0 : BS x0 l) (hl : l.length ≤ maxLen) (h1 : 0 ≤ left) (h2 : left ≤ 1048576) (n : Nat) : L.call i_laws_szBoolS [x0, .int .i64 left] n = some (.int .i64 (szM left l.length), n) := by
  have hl' : l.length ≤ 9223372036854775807 := hl
  rw [call_laws_szBoolS, SlOf.len h0]
  simp only [bind_some', aBin_sub, aBin_lss, cnd_dec]
  rw [wrap64 (by omega) (by omega)]
  simp only [resTup_int, bind_some', n_st0, szM]
  split <;> rfl

theorem szBoolSS_call {x0 : AV} {l : List (List Bool)} {left : Int} (h0 : BSS x0 l) (hl : l.length ≤ maxLen) (hr : ∀ r ∈ l, r.length ≤ maxLen) (h1 : 0 ≤ left) (h2 : left ≤ 1048576) (n : Nat) :
    ∃ z, L.call i_laws_szBoolSS [x0, .int .i64 left] n = some (.int .i64 z, n) ∧ (0 ≤ z → l.length ≤ left ∧ ∀ r ∈ l, r.length ≤ left) := by
  have hl' : l.length ≤ 9223372036854775807 := hl
  rw [call_laws_szBoolSS, SlOf.len h0]
  simp only [bind_some', aBin_sub, aBin_lss, cnd_dec]
  rw [wrap64 (by omega) (by omega)]
  by_cases hneg : left - l.length < 0
  · rw [if_pos hneg]
    exact ⟨-1, by simp only [resTup_int, bind_some', n_st0], fun h => by omega⟩
  · rw [if_neg hneg]
    obtain ⟨r, e1, e2⟩ := loop_inv (σ := Int) (fun i s => L.loop [0, 1, 5] [1, 4] b_laws_szBoolSS_1 [x0, .int .i64 s, .int .i64 i] (st0 n)) (fun i s => 0 ≤ s ∧ s ≤ left ∧ ∀ j, j < i → ∀ r, l[j]? = some r → r.length ≤ left)
      (fun r => (∃ s a, r = (.exit 0, [.int .i64 s, a], st0 n) ∧ ∀ r ∈ l, r.length ≤ left) ∨ ∃ a, r = (.ret, [a, .int .i64 (-1)], st0 n)) l.length
      (fun s hs => by
        rw [loop_laws_szBoolSS_1, SlOf.len h0]
        simp only [bind_some', aBin_lss, cnd_dec, Int.lt_irrefl, if_false]
        refine ⟨_, rfl, .inl ⟨_, _, rfl, fun r hr => ?_⟩⟩
        obtain ⟨j, hj, rfl⟩ := List.mem_iff_getElem.1 hr
        exact hs.2.2 j hj _ (List.getElem?_eq_getElem hj))
      (fun i s hi hs => by
        obtain ⟨e1, g1, g2⟩ := SlOf.idx h0 (List.getElem?_eq_getElem hi)
        have hrl : l[i].length ≤ 9223372036854775807 := hr _ (List.getElem_mem hi)
        rw [loop_laws_szBoolSS_1, SlOf.len h0]
        simp only [bind_some', aBin_lss, cnd_dec, g2, load_one (SlOf.one g1)]
        rw [if_pos (by omega)]
        rw [call_same (plain2 (BS.plain g1) (plain_int _ _)) (szBoolS_call g1 hrl hs.1 (by omega) _)]
        simp only [bind_some', aBin_lss, cnd_dec, aBin_add]
        rw [wrap64 (by omega) (by omega)]
        by_cases hz : szM s l[i].length < 0
        · right
          rw [if_pos hz]
          exact ⟨_, rfl, .inr ⟨_, rfl⟩⟩
        · left
          rw [if_neg hz]
          have : szM s l[i].length = s - l[i].length ∧ 0 ≤ s - l[i].length := by unfold szM at hz ⊢; split at hz <;> omega
          refine ⟨szM s l[i].length, rfl, by omega, by omega, fun j hj r hjr => ?_⟩
          by_cases ej : j = i
          · subst ej; rw [List.getElem?_eq_getElem hi] at hjr; simp at hjr; subst hjr; omega
          · exact hs.2.2 j (by omega) r hjr)
      l.length 0 (left - l.length) (by omega) ⟨by omega, by omega, fun j hj => absurd hj (by omega)⟩
    rw [show ((0 : Nat) : Int) = 0 from rfl] at e1
    rw [e1]
    rcases e2 with ⟨s, a, rfl, h⟩ | ⟨a, rfl⟩
    · exact ⟨s, by simp only [bind_some', k_laws_szBoolSS_1_0, resTup_int, n_st0], fun _ => ⟨by omega, h⟩⟩
    · exact ⟨-1, by simp only [bind_some', k_laws_szBoolSS_1_ret, resTup_int, n_st0], fun h => by omega⟩

/-! ### copies -/
theorem toBoolS_call {x0 : AV} {l : List Bool} (h0 : BS x0 l) (hl : l.length ≤ 2147483648) (n : Nat) : ∃ r n', L.call i_laws_toBoolS [x0] n = some (r, n') ∧ BS r l ∧ n ≤ n' := by
  rw [call_laws_toBoolS, SlOf.len h0]
  simp only [bind_some']
  rw [mkMake_ok (s := 1) (z := .bool false) (by omega) rfl rfl (by omega)]
  obtain ⟨st', es', g1, g2, g3, g4, g5⟩ := copy_loop (R := RB) (fun i st => L.loop [0, 3, 4] [2, 3] b_laws_toBoolS_1 [x0, .lsl 0 n 1 0 l.length, .int .i64 i] st) l n 1 0
    (fun i st es b hb hH hes hp => by
      have hi := (List.getElem?_eq_some_iff.1 hb).1
      obtain ⟨e1, rfl, q1⟩ := SlOf.idx h0 hb
      refine ⟨.bool b, st.n, rfl, plain_bool b, rfl, Nat.le_refl _, ?_⟩
      rw [loop_laws_toBoolS_1, SlOf.len h0]
      simp only [bind_some', aBin_lss, cnd_dec, q1, load_b, aBin_add]
      rw [if_pos (by omega), wrap64 (by omega) (by omega), iaddr_lsl hi, bind_some', store_one hH (by omega) (hp _ (List.getElem_mem _)).2 rfl]
      rfl)
    l.length 0 ((st0 n).new 1 (List.replicate l.length (.bool false))) (List.replicate l.length (.bool false)) (by omega) (new_H (st0 n) _ _) (by simp) (fun e he => by rw [List.eq_of_mem_replicate he]; exact ⟨plain_bool _, rfl⟩) (fun q e b hq => absurd hq (by omega))
  rw [show ((0 : Nat) : Int) = 0 from rfl] at g1
  show ∃ r n', (L.loop [0, 3, 4] [2, 3] b_laws_toBoolS_1 [x0, .lsl 0 n 1 0 l.length, .int .i64 0] ((st0 n).new 1 (List.replicate l.length (.bool false)))).bind k_laws_toBoolS_1 = some (r, n') ∧ BS r l ∧ n ≤ n'
  rw [g1, loop_laws_toBoolS_1, SlOf.len h0]
  simp only [bind_some', aBin_lss, cnd_dec, Int.lt_irrefl, if_false, k_laws_toBoolS_1_0]
  rw [← g3.length, resTup_lsl g2 fun e he => (g4 e he).1]
  exact ⟨_, _, rfl, ⟨es', .inr ⟨_, _, rfl⟩, g3⟩, Nat.le_trans (Nat.le_succ n) g5⟩

end Go.Proofs.YtilbmpdeginabaaFw
