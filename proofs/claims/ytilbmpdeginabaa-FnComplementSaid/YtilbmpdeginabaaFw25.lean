/- Marks: writing into all that a value owns; the loop over a slice's elements. Conditions: none beside each theorem's own. -/
import Derived.Test.YtilbmpdeginabaaFw24
set_option linter.unusedSimpArgs false
set_option linter.unusedVariables false
namespace Go.Proofs.YtilbmpdeginabaaFw
open Go

/-- what lies outside [a, b) is kept -/
def Keep (st st' : St) (a b : Nat) : Prop := (∀ j, j < st.m → ¬ (a ≤ j ∧ j < b) → st'.H j = st.H j) ∧ st.m ≤ st'.m ∧ st.n ≤ st'.n

theorem Keep.refl (st : St) (a b : Nat) : Keep st st a b := ⟨fun _ _ _ => rfl, Nat.le_refl _, Nat.le_refl _⟩
theorem Keep.trans {s1 s2 s3 : St} {a b : Nat} (h : Keep s1 s2 a b) (k : Keep s2 s3 a b) : Keep s1 s3 a b :=
  ⟨fun j h1 h2 => by rw [k.1 j (by have := h.2.1; omega) h2, h.1 j h1 h2], Nat.le_trans h.2.1 k.2.1, Nat.le_trans h.2.2 k.2.2⟩
theorem Keep.wide {st st' : St} {a b a' b' : Nat} (h : Keep st st' a b) (h1 : a' ≤ a) (h2 : b ≤ b') : Keep st st' a' b' :=
  ⟨fun j hj hn => h.1 j hj (by omega), h.2⟩
theorem Keep.own {st st' : St} {a b x y : Nat} {v T : AV} (h : Keep st st' a b) (k : Own st x y v T) (hy : y ≤ st.m) (hd : y ≤ a ∨ b ≤ x) : Own st' x y v T :=
  k.frame fun j h1 h2 => h.1 j (by omega) (by omega)
theorem Keep.ownL {st st' : St} {a b x y : Nat} {v T : List AV} (h : Keep st st' a b) (k : OwnL st x y v T) (hy : y ≤ st.m) (hd : y ≤ a ∨ b ≤ x) : OwnL st' x y v T :=
  k.frame fun j h1 h2 => h.1 j (by omega) (by omega)

section
variable {α ρ : Type}

def mkL (f : α → Int → α) (c : α → Nat) : List α → Int → List α
  | [], _ => []
  | x :: xs, k => f x k :: mkL f c xs (k + c x)
def cntL (c : α → Nat) : List α → Nat
  | [] => 0
  | x :: xs => c x + cntL c xs
theorem mkL_length (f : α → Int → α) (c : α → Nat) : ∀ (l : List α) (k : Int), (mkL f c l k).length = l.length
  | [], _ => rfl
  | x :: xs, k => by simp [mkL, mkL_length f c xs]

mutual
theorem Own.flat {st : St} : ∀ {a b : Nat} {v T : AV}, Own st a b v T → dep T = 0 → v = T
  | a, b, v, .sl t off s es, h, h0 => by simp [dep] at h0
  | a, b, v, .agg cs, h, h0 => by
    simp only [Own] at h; obtain ⟨ws, rfl, h⟩ := h
    simp only [dep] at h0
    rw [h.flat h0]
  | a, b, v, .bool x, h, h0 => by simp only [Own] at h; exact h.1
  | a, b, v, .int k x, h, h0 => by simp only [Own] at h; exact h.1
  | a, b, v, .str x, h, h0 => by simp only [Own] at h; exact h.1
  | a, b, v, .nils, h, h0 => by simp only [Own] at h; exact h.1
  | a, b, v, .undef, h, h0 => by simp [Own] at h
  | a, b, v, .nilp, h, h0 => by simp [Own] at h
  | a, b, v, .ptr .., h, h0 => by simp [Own] at h
  | a, b, v, .eptr .., h, h0 => by simp [Own] at h
  | a, b, v, .lsl .., h, h0 => by simp [Own] at h
  | a, b, v, .tup .., h, h0 => by simp [Own] at h
theorem OwnL.flat {st : St} : ∀ {a b : Nat} {vs Ts : List AV}, OwnL st a b vs Ts → depL Ts = 0 → vs = Ts
  | a, b, vs, [], h, h0 => by simp only [OwnL] at h; exact h.1
  | a, b, vs, T :: Ts, h, h0 => by
    simp only [OwnL] at h; obtain ⟨v, ws, c, rfl, h1, h2⟩ := h
    simp only [depL] at h0
    rw [h1.flat (by omega), h2.flat (by omega)]
end

mutual
theorem flat_own {st : St} {a b : Nat} (hab : a ≤ b) : ∀ {T : AV}, dep T = 0 → thB T = true → Own st a b T T
  | .sl t off s es, h, h0 => by simp [dep] at h
  | .agg cs, h, h0 => by
    simp only [dep] at h
    simp only [thB, Bool.and_eq_true] at h0
    simp only [Own]; exact ⟨cs, rfl, flat_ownL hab h h0.2⟩
  | .bool x, h, h0 => by simp [Own, hab]
  | .int k x, h, h0 => by simp [Own, hab]
  | .str x, h, h0 => by simp [Own, hab]
  | .nils, h, h0 => by simp [Own, hab]
  | .undef, h, h0 => by simp [thB] at h0
  | .nilp, h, h0 => by simp [thB] at h0
  | .ptr .., h, h0 => by simp [thB] at h0
  | .eptr .., h, h0 => by simp [thB] at h0
  | .lsl .., h, h0 => by simp [thB] at h0
  | .tup .., h, h0 => by simp [thB] at h0
theorem flat_ownL {st : St} {a b : Nat} (hab : a ≤ b) : ∀ {Ts : List AV}, depL Ts = 0 → thBL Ts = true → OwnL st a b Ts Ts
  | [], h, h0 => by simp [OwnL, hab]
  | T :: Ts, h, h0 => by
    simp only [depL] at h
    simp only [thBL, Bool.and_eq_true] at h0
    simp only [OwnL]; exact ⟨T, Ts, a, rfl, flat_own (Nat.le_refl _) (by omega) h0.1, flat_ownL hab (by omega) h0.2⟩
end

theorem Own.slice {st : St} {a b s : Nat} {R : AV → α → Prop} {v T : AV} {l : List α} (h : Own st a b v T) (hT : SlOf s R T l) :
    (v = .nils ∧ T = .nils ∧ l = []) ∨ ∃ t j vs es, T = .sl t 0 s es ∧ v = .lsl j t s 0 l.length ∧ st.H j = some ⟨t, s, vs⟩ ∧ a ≤ j ∧ j < b ∧ OwnL st a j vs es ∧ All2 R es l := by
  obtain ⟨es, h1, h2⟩ := hT
  have hl := h2.length
  rcases h1 with ⟨rfl, rfl⟩ | ⟨t, off, rfl⟩
  · simp only [Own] at h
    exact .inl ⟨h.1, rfl, List.length_eq_zero_iff.1 (by simpa using hl.symm)⟩
  · simp only [Own] at h
    obtain ⟨rfl, j, vs, rfl, g1, g2, g3, g4⟩ := h
    exact .inr ⟨t, j, vs, es, rfl, by rw [hl], g1, g2, g3, g4, h2⟩

/-- one round of a marking loop: element number d.length -/
def MarkStep (Lp : Nat → Int → St → Option ρ) (N j t s : Nat) (R R' : AV → α → Prop) (mk : α → Int → α) (c : α → Nat) : Prop :=
  ∀ (d : List AV) (v : AV) (rv : List AV) (T : AV) (x : α) (x0 y0 : Nat) (k : Int) (st : St), st.H j = some ⟨t, s, d ++ v :: rv⟩ → Own st x0 y0 v T → R T x → y0 ≤ j → j < st.m → 0 ≤ k → k + c x ≤ 4611686018427387904 → d.length + 1 + rv.length = N →
    ∃ st1 v' T', Lp d.length k st = Lp (d.length + 1) (k + c x) st1 ∧ st1.H j = some ⟨t, s, d ++ v' :: rv⟩ ∧ Own st1 x0 y0 v' T' ∧ R' T' (mk x k) ∧ (∀ i, i < st.m → i ≠ j → ¬ (x0 ≤ i ∧ i < y0) → st1.H i = st.H i) ∧ st.m ≤ st1.m ∧ st.n ≤ st1.n

theorem mark_loop {Lp : Nat → Int → St → Option ρ} {N j t s : Nat} {R R' : AV → α → Prop} {mk : α → Int → α} {c : α → Nat} (step : MarkStep Lp N j t s R R' mk c) :
    ∀ (l : List α) (d rv rT : List AV) (a : Nat) (k : Int) (st : St), st.H j = some ⟨t, s, d ++ rv⟩ → OwnL st a j rv rT → All2 R rT l → j < st.m → 0 ≤ k → k + cntL c l ≤ 4611686018427387904 → d.length + l.length = N →
      ∃ st' rv' rT', Lp d.length k st = Lp (d.length + l.length) (k + cntL c l) st' ∧ st'.H j = some ⟨t, s, d ++ rv'⟩ ∧ OwnL st' a j rv' rT' ∧ All2 R' rT' (mkL mk c l k) ∧ (∀ i, i < st.m → ¬ (a ≤ i ∧ i < j + 1) → st'.H i = st.H i) ∧ st.m ≤ st'.m ∧ st.n ≤ st'.n
  | [], d, rv, rT, a, k, st, hH, hO, hA, hj, hk, hc, hl => by
    have h0 : rT = [] := List.length_eq_zero_iff.1 (by simpa using hA.length)
    subst h0
    refine ⟨st, rv, [], by simp [cntL], hH, hO, by simp [mkL, All2], fun _ _ _ => rfl, Nat.le_refl _, Nat.le_refl _⟩
  | x :: l, d, rv, rT, a, k, st, hH, hO, hA, hj, hk, hc, hl => by
    cases rT with
    | nil => simp [All2] at hA
    | cons T rT =>
      simp only [All2] at hA
      obtain ⟨_, _, e, hR, hA⟩ := hA
      cases e
      simp only [OwnL] at hO
      obtain ⟨v, rv, y, rfl, hO1, hO2⟩ := hO
      simp only [cntL] at hc
      simp only [List.length_cons] at hl
      have l1 := hO1.le; have l2 := hO2.le
      have l3 := hO2.length; have l4 := hA.length
      obtain ⟨s1, v', T', e1, g1, g2, g3, g4, g5, g6⟩ := step d v rv T x a y k st hH hO1 hR l2 hj hk (by omega) (by omega)
      obtain ⟨s2, rv', rT', e2, f1, f2, f3, f4, f5, f6⟩ := mark_loop step l (d ++ [v']) rv rT y (k + c x) s1 (by simpa using g1)
        (hO2.frame fun i h1 h2 => g4 i (by omega) (by omega) (by omega)) hA (by omega) (by omega) (by omega) (by simp; omega)
      refine ⟨s2, v' :: rv', T' :: rT', ?_, by simpa using f1, ?_, ?_, fun i h1 h2 => ?_, by omega, by omega⟩
      · rw [e1]
        simp only [List.length_append, List.length_singleton] at e2
        rw [e2]
        simp only [List.length_cons, cntL]
        rw [show d.length + 1 + l.length = d.length + (l.length + 1) by omega, show k + (c x : Int) + (cntL c l : Nat) = k + ((c x + cntL c l : Nat) : Int) by omega]
      · simp only [OwnL]
        exact ⟨v', rv', y, rfl, g2.frame fun i h1 h2 => f4 i (by omega) (by omega), f2⟩
      · simp only [mkL, All2]; exact ⟨_, _, rfl, g3, f3⟩
      · rw [f4 i (by omega) (by omega), g4 i h1 (by omega) (by omega)]

/-- what a marking function does -/
def Marks (R : Sys) (f : Nat) (P P' : AV → α → Prop) (mk : α → Int → α) (c : α → Nat) (sm : α → Prop) : Prop :=
  ∀ (st : St) (a b : Nat) (v T : AV) (x : α) (k : Int), Own st a b v T → b ≤ st.m → P T x → sm x → 0 ≤ k → k + c x ≤ 4611686018427387904 →
    Ok (R.inl f [v, .int .i64 k] st) fun p => p.1 = .int .i64 (k + c x) ∧ Keep st p.2 a b ∧ ∃ T', Own p.2 a b v T' ∧ P' T' (mk x k)

theorem mid_get (d : List AV) (v : AV) (r : List AV) : (d ++ v :: r)[d.length]? = some v := by simp
theorem mid_set (d : List AV) (v w : AV) (r : List AV) : (d ++ v :: r).set d.length w = d ++ w :: r := by simp

theorem store_mid1 {st : St} {j t s : Nat} {d r : List AV} {e v : AV} (h : st.H j = some ⟨t, s, d ++ e :: r⟩) (h1 : e.one = true) (h2 : v.one = true) :
    aStore 1 (.ptr j t d.length 0) v st = some (st.put j ⟨t, s, d ++ v :: r⟩) := by
  have := store_one (v := v) (i := d.length) h (by simp) (by simpa using h1) h2
  rw [this, mid_set]

theorem store_mid {st : St} {j t s f : Nat} {d r cs : List AV} {v : AV} (h : st.H j = some ⟨t, s, d ++ .agg cs :: r⟩) (hf : f < cs.length) (h2 : v.one = true) :
    aStore 1 (.ptr j t d.length f) v st = some (st.put j ⟨t, s, d ++ .agg (cs.set f v) :: r⟩) := by
  have hs : v.stor = true ∧ v.cells = [v] := by cases v <;> simp [AV.one] at h2 <;> exact ⟨rfl, rfl⟩
  have he : setElem f [v] (.agg cs) = some (.agg (cs.set f v)) := by
    simp only [setElem, List.length_singleton]
    rw [if_pos (by omega)]
    simp only [splice, List.length_singleton]
    rw [List.set_eq_take_append_cons_drop, if_pos hf]; simp
  unfold aStore
  simp only [hs.1, hs.2, List.length_singleton, and_self, if_true, get_H h, Option.bind_some, mid_get, he, mid_set]

theorem put_put (st : St) (j : Nat) (a b : LArr) : (st.put j a).put j b = st.put j b := by
  simp only [St.put]; congr 1; funext i; cases Nat.beq i j <;> rfl

theorem load_mid {st : St} {j t s f : Nat} {d r : List AV} {e : AV} (h : st.H j = some ⟨t, s, d ++ e :: r⟩) (g : Bool) (w : Nat) : aLoad g w st (.ptr j t d.length f) = ldCells g w (e.cells.drop f) := by
  simp only [aLoad, get_H h, Option.bind_some, mid_get]

theorem iaddr_mid {s j t len : Nat} {k : IntKind} {d : List AV} (h : d.length < len) : aIaddr s (.lsl j t s 0 len) (.int k (d.length : Nat)) = some (.ptr j t d.length 0) := iaddr_lsl h

end
end Go.Proofs.YtilbmpdeginabaaFw
