/- Observations: copied, and tested. Conditions: none. -/
import Derived.Test.YtilbmpdeginabaaFw22
import Derived.Test.YtilbmpdeginabaaEqA
namespace Go.Proofs.YtilbmpdeginabaaFw
open Go
theorem nbeq (a b : Nat) : Nat.beq a b = decide (a = b) := by
  by_cases h : a = b
  · subst h; simp
  · simp only [h, decide_false]
    cases e : Nat.beq a b with
    | false => rfl
    | true => exact absurd (Nat.eq_of_beq_eq_true e) h

def obsV (x y w : Int) : AV := .agg [.int .i64 x, .int .i64 y, .int .i64 w]
theorem obs_plain (x y w : Int) : Plain (obsV x y w) := ⟨rfl, .inr ⟨_, rfl, rfl⟩⟩

theorem toObs (x y w : Int) (n : Nat) : L.call i_laws_toObservation [obsV x y w] n = some (obsV x y w, n + 3) := by
  rw [call_laws_toObservation]
  simp [obsV, nbeq, St.new, St.put, St.get, st0, aFaddr, aLoad, aStore, ldCells, setElem, splice, AV.stor, AV.cells, AV.one, resTup, res, resD, resVal, mapO, resOne, retV]

theorem inRange_call (a : Int) (n : Nat) : L.call i_impl_inRange [.int .i64 a] n = some (.bool (decide (-1000000 ≤ a ∧ a ≤ 1000000)), n) := by
  rw [call_impl_inRange]
  simp only [aBin_geq, bind_some', cnd_dec, aBin_leq, resTup_bool, n_st0]
  by_cases h : -1000000 ≤ a <;> simp [h]

theorem l01In_call (a b c : Int) (n : Nat) : L.call i_spec_l01In [.int .i64 a, .int .i64 b, .int .i64 c] n = some (.bool (decide (b ≤ a ∧ a ≤ c)), n) := by
  rw [call_spec_l01In]
  simp only [aBin_geq, bind_some', cnd_dec, aBin_leq, resTup_bool, n_st0]
  by_cases h : b ≤ a <;> simp [h]

def obsM (x y w : Int) : Bool := decide (-1000000 ≤ x ∧ x ≤ 1000000 ∧ -1000000 ≤ y ∧ y ≤ 1000000 ∧ 1 ≤ w ∧ w ≤ 9999)

theorem IsValidObservation_impl (x y w : Int) (n : Nat) : L.call i_impl_IsValidObservation [obsV x y w] n = some (.bool (obsM x y w), n + 1) := by
  rw [call_impl_IsValidObservation]
  have S : ∀ a, clV L i_impl_inRange 0 [.int .i64 a] ((st0 n).new 3 [obsV x y w]) = some (.bool (decide (-1000000 ≤ a ∧ a ≤ 1000000)), (st0 n).new 3 [obsV x y w]) := fun a =>
    call_same (plain1 (plain_int _ _)) (inRange_call a _)
  have g0 : ∀ off v, ([AV.int .i64 x, .int .i64 y, .int .i64 w].drop off).head? = some v → aLoad false 1 ((st0 n).new 3 [obsV x y w]) (.ptr (st0 n).m (st0 n).n 0 (0 + off)) = some v := by
    intro off v h
    simp [nbeq, St.new, St.get, st0, aLoad, ldCells, obsV, AV.cells] at h ⊢
    exact h
  have h0 : (obsV x y w).stor = true ∧ (obsV x y w).cells.length ≠ 0 := ⟨rfl, by simp [obsV, AV.cells]⟩
  rw [if_pos h0]
  simp only [aFaddr, bind_some', show (obsV x y w).cells.length = 3 from rfl, g0 0 (.int .i64 x) rfl, g0 1 (.int .i64 y) rfl, g0 2 (.int .i64 w) rfl, S, cnd_dec, aBin_geq, aBin_leq, resTup_bool]
  unfold obsM
  by_cases h1 : -1000000 ≤ x ∧ x ≤ 1000000
  · by_cases h2 : -1000000 ≤ y ∧ y ≤ 1000000
    · by_cases h3 : 1 ≤ w
      · simp [h1, h2, h3]; rfl
      · simp [h1, h2, h3]; rfl
    · rw [if_pos h1, if_neg h2]
      have : ¬ (-1000000 ≤ x ∧ x ≤ 1000000 ∧ -1000000 ≤ y ∧ y ≤ 1000000 ∧ 1 ≤ w ∧ w ≤ 9999) := by omega
      simp only [this, decide_false]; rfl
  · rw [if_neg h1]
    have : ¬ (-1000000 ≤ x ∧ x ≤ 1000000 ∧ -1000000 ≤ y ∧ y ≤ 1000000 ∧ 1 ≤ w ∧ w ≤ 9999) := by omega
    simp only [this, decide_false]; rfl

theorem IsValidPose_spec (t x y : Int) (n : Nat) : L.call i_spec_IsValidPose [obsV t x y] n = some (.bool (decide ((0 ≤ t ∧ t ≤ 3) ∧ (-1000000 ≤ x ∧ x ≤ 1000000) ∧ (-1000000 ≤ y ∧ y ≤ 1000000))), n + 1) := by
  rw [call_spec_IsValidPose]
  have S : ∀ a b c, clV L i_spec_l01In 0 [.int .i64 a, .int .i64 b, .int .i64 c] ((st0 n).new 3 [obsV t x y]) = some (.bool (decide (b ≤ a ∧ a ≤ c)), (st0 n).new 3 [obsV t x y]) := fun a b c =>
    call_same (plain3 (plain_int _ _) (plain_int _ _) (plain_int _ _)) (l01In_call a b c _)
  have g0 : ∀ off v, ([AV.int .i64 t, .int .i64 x, .int .i64 y].drop off).head? = some v → aLoad false 1 ((st0 n).new 3 [obsV t x y]) (.ptr (st0 n).m (st0 n).n 0 (0 + off)) = some v := by
    intro off v h
    simp [nbeq, St.new, St.get, st0, aLoad, ldCells, obsV, AV.cells] at h ⊢
    exact h
  have h0 : (obsV t x y).stor = true ∧ (obsV t x y).cells.length ≠ 0 := ⟨rfl, by simp [obsV, AV.cells]⟩
  rw [if_pos h0]
  simp only [aFaddr, bind_some', show (obsV t x y).cells.length = 3 from rfl, g0 0 (.int .i64 t) rfl, g0 1 (.int .i64 x) rfl, g0 2 (.int .i64 y) rfl, S, cnd_dec, resTup_bool]
  by_cases h1 : 0 ≤ t ∧ t ≤ 3
  · by_cases h2 : -1000000 ≤ x ∧ x ≤ 1000000
    · simp only [h1, h2, if_true, true_and, and_self]; rfl
    · simp only [h1, h2, if_true, if_false, false_and, and_false, decide_false, and_self]; rfl
  · simp only [h1, if_false, false_and, decide_false]; rfl

theorem IsValidObservation_spec (x y w : Int) (n : Nat) : L.call i_spec_IsValidObservation [obsV x y w] n = some (.bool (obsM x y w), n + 2) := by
  rw [call_spec_IsValidObservation]
  have g0 : ∀ m off v, ([AV.int .i64 x, .int .i64 y, .int .i64 w].drop off).head? = some v → aLoad false 1 { ((st0 n).new 3 [obsV x y w]) with n := m } (.ptr (st0 n).m (st0 n).n 0 (0 + off)) = some v := by
    intro m off v h
    simp [nbeq, St.new, St.get, st0, aLoad, ldCells, obsV, AV.cells] at h ⊢
    exact h
  have h0 : (obsV x y w).stor = true ∧ (obsV x y w).cells.length ≠ 0 := ⟨rfl, by simp [obsV, AV.cells]⟩
  have mk : mkBuild [(1, 1, .int .i64 x), (2, 1, .int .i64 y)] [(.int .i64 0), (.int .i64 0), (.int .i64 0)] = some [.int .i64 0, .int .i64 x, .int .i64 y] := by kernel_rfl
  rw [if_pos h0]
  have S : clV L i_spec_IsValidPose 0 [obsV 0 x y] ((st0 n).new 3 [obsV x y w]) = some (.bool (decide ((0 ≤ (0 : Int) ∧ (0 : Int) ≤ 3) ∧ (-1000000 ≤ x ∧ x ≤ 1000000) ∧ (-1000000 ≤ y ∧ y ≤ 1000000))), { (st0 n).new 3 [obsV x y w] with n := n + 2 }) :=
    call_plain (plain1 (obs_plain _ _ _)) (IsValidPose_spec 0 x y _)
  have g1 := g0 (n + 1)
  have e1 : { (st0 n).new 3 [obsV x y w] with n := n + 1 } = (st0 n).new 3 [obsV x y w] := rfl
  rw [e1] at g1
  simp only [aFaddr, bind_some', show (obsV x y w).cells.length = 3 from rfl, g1 0 (.int .i64 x) rfl, g1 1 (.int .i64 y) rfl, mk]
  rw [show AV.agg [.int .i64 0, .int .i64 x, .int .i64 y] = obsV 0 x y from rfl, S]
  simp only [bind_some', cnd_dec, g0 (n + 2) 2 (.int .i64 w) rfl]
  rw [call_same (plain3 (plain_int _ _) (plain_int _ _) (plain_int _ _)) (l01In_call w 1 9999 _)]
  simp only [bind_some', resTup_bool]
  unfold obsM
  by_cases h1 : (0 ≤ (0 : Int) ∧ (0 : Int) ≤ 3) ∧ (-1000000 ≤ x ∧ x ≤ 1000000) ∧ (-1000000 ≤ y ∧ y ≤ 1000000)
  · rw [if_pos h1]
    have : (-1000000 ≤ x ∧ x ≤ 1000000 ∧ -1000000 ≤ y ∧ y ≤ 1000000 ∧ 1 ≤ w ∧ w ≤ 9999) ↔ (1 ≤ w ∧ w ≤ 9999) := by omega
    simp only [this]
  · rw [if_neg h1]
    have : ¬ (-1000000 ≤ x ∧ x ≤ 1000000 ∧ -1000000 ≤ y ∧ y ≤ 1000000 ∧ 1 ≤ w ∧ w ≤ 9999) := by omega
    simp only [this, decide_false]

end Go.Proofs.YtilbmpdeginabaaFw
