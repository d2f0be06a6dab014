/- Values whose local arrays are all their own: made by a thaw, read, changed part by part. Conditions: none beside each theorem's own. -/
import Derived.Test.YtilbmpdeginabaaFw23
set_option linter.unusedSimpArgs false
set_option linter.unusedVariables false
namespace Go.Proofs.YtilbmpdeginabaaFw
open Go

/-! ### v reads as the tree T; its arrays' numbers lie in [a, b), no number twice -/

mutual
def Own (st : St) : Nat → Nat → AV → AV → Prop
  | a, b, v, .sl t off s es => off = 0 ∧ ∃ j vs, v = .lsl j t s 0 es.length ∧ st.H j = some ⟨t, s, vs⟩ ∧ a ≤ j ∧ j < b ∧ OwnL st a j vs es
  | a, b, v, .agg cs => ∃ ws, v = .agg ws ∧ OwnL st a b ws cs
  | a, b, v, .bool x => v = .bool x ∧ a ≤ b
  | a, b, v, .int k x => v = .int k x ∧ a ≤ b
  | a, b, v, .str x => v = .str x ∧ a ≤ b
  | a, b, v, .nils => v = .nils ∧ a ≤ b
  | _, _, _, _ => False
def OwnL (st : St) : Nat → Nat → List AV → List AV → Prop
  | a, b, vs, [] => vs = [] ∧ a ≤ b
  | a, b, vs, T :: Ts => ∃ v ws c, vs = v :: ws ∧ Own st a c v T ∧ OwnL st c b ws Ts
end

mutual
theorem Own.le {st : St} : ∀ {a b : Nat} {v T : AV}, Own st a b v T → a ≤ b
  | a, b, v, .sl t off s es, h => by simp only [Own] at h; obtain ⟨_, j, vs, _, _, h1, h2, _⟩ := h; omega
  | a, b, v, .agg cs, h => by simp only [Own] at h; obtain ⟨ws, _, h⟩ := h; exact h.le
  | a, b, v, .bool x, h => by simp only [Own] at h; exact h.2
  | a, b, v, .int k x, h => by simp only [Own] at h; exact h.2
  | a, b, v, .str x, h => by simp only [Own] at h; exact h.2
  | a, b, v, .nils, h => by simp only [Own] at h; exact h.2
  | a, b, v, .undef, h => by simp [Own] at h
  | a, b, v, .nilp, h => by simp [Own] at h
  | a, b, v, .ptr .., h => by simp [Own] at h
  | a, b, v, .eptr .., h => by simp [Own] at h
  | a, b, v, .lsl .., h => by simp [Own] at h
  | a, b, v, .tup .., h => by simp [Own] at h
theorem OwnL.le {st : St} : ∀ {a b : Nat} {vs Ts : List AV}, OwnL st a b vs Ts → a ≤ b
  | a, b, vs, [], h => by simp only [OwnL] at h; exact h.2
  | a, b, vs, T :: Ts, h => by
    simp only [OwnL] at h
    obtain ⟨v, ws, c, _, h1, h2⟩ := h
    exact Nat.le_trans h1.le h2.le
end

mutual
theorem Own.frame {st st' : St} : ∀ {a b : Nat} {v T : AV}, Own st a b v T → (∀ j, a ≤ j → j < b → st'.H j = st.H j) → Own st' a b v T
  | a, b, v, .sl t off s es, h, k => by
    simp only [Own] at h ⊢
    obtain ⟨h0, j, vs, rfl, h1, h2, h3, h4⟩ := h
    exact ⟨h0, j, vs, rfl, by rw [k j h2 h3]; exact h1, h2, h3, h4.frame fun i hi hi' => k i hi (by omega)⟩
  | a, b, v, .agg cs, h, k => by simp only [Own] at h ⊢; obtain ⟨ws, rfl, h⟩ := h; exact ⟨ws, rfl, h.frame k⟩
  | a, b, v, .bool x, h, k => by simp only [Own] at h ⊢; exact h
  | a, b, v, .int _ x, h, k => by simp only [Own] at h ⊢; exact h
  | a, b, v, .str x, h, k => by simp only [Own] at h ⊢; exact h
  | a, b, v, .nils, h, k => by simp only [Own] at h ⊢; exact h
  | a, b, v, .undef, h, k => by simp [Own] at h
  | a, b, v, .nilp, h, k => by simp [Own] at h
  | a, b, v, .ptr .., h, k => by simp [Own] at h
  | a, b, v, .eptr .., h, k => by simp [Own] at h
  | a, b, v, .lsl .., h, k => by simp [Own] at h
  | a, b, v, .tup .., h, k => by simp [Own] at h
theorem OwnL.frame {st st' : St} : ∀ {a b : Nat} {vs Ts : List AV}, OwnL st a b vs Ts → (∀ j, a ≤ j → j < b → st'.H j = st.H j) → OwnL st' a b vs Ts
  | a, b, vs, [], h, k => by simp only [OwnL] at h ⊢; exact h
  | a, b, vs, T :: Ts, h, k => by
    simp only [OwnL] at h ⊢
    obtain ⟨v, ws, c, rfl, h1, h2⟩ := h
    have l1 := h1.le; have l2 := h2.le
    exact ⟨v, ws, c, rfl, h1.frame fun j hj hj' => k j hj (by omega), h2.frame fun j hj hj' => k j (by omega) hj'⟩
end

mutual
theorem Own.wide {st : St} : ∀ {a b : Nat} {v T : AV}, Own st a b v T → ∀ {a' b' : Nat}, a' ≤ a → b ≤ b' → Own st a' b' v T
  | a, b, v, .sl t off s es, h, a', b', ha, hb => by
    simp only [Own] at h ⊢
    obtain ⟨h0, j, vs, rfl, h1, h2, h3, h4⟩ := h
    exact ⟨h0, j, vs, rfl, h1, by omega, by omega, h4.wide ha (Nat.le_refl _)⟩
  | a, b, v, .agg cs, h, a', b', ha, hb => by simp only [Own] at h ⊢; obtain ⟨ws, rfl, h⟩ := h; exact ⟨ws, rfl, h.wide ha hb⟩
  | a, b, v, .bool x, h, a', b', ha, hb => by simp only [Own] at h ⊢; exact ⟨h.1, by omega⟩
  | a, b, v, .int _ x, h, a', b', ha, hb => by simp only [Own] at h ⊢; exact ⟨h.1, by omega⟩
  | a, b, v, .str x, h, a', b', ha, hb => by simp only [Own] at h ⊢; exact ⟨h.1, by omega⟩
  | a, b, v, .nils, h, a', b', ha, hb => by simp only [Own] at h ⊢; exact ⟨h.1, by omega⟩
  | a, b, v, .undef, h, _, _, _, _ => by simp [Own] at h
  | a, b, v, .nilp, h, _, _, _, _ => by simp [Own] at h
  | a, b, v, .ptr .., h, _, _, _, _ => by simp [Own] at h
  | a, b, v, .eptr .., h, _, _, _, _ => by simp [Own] at h
  | a, b, v, .lsl .., h, _, _, _, _ => by simp [Own] at h
  | a, b, v, .tup .., h, _, _, _, _ => by simp [Own] at h
theorem OwnL.wide {st : St} : ∀ {a b : Nat} {vs Ts : List AV}, OwnL st a b vs Ts → ∀ {a' b' : Nat}, a' ≤ a → b ≤ b' → OwnL st a' b' vs Ts
  | a, b, vs, [], h, a', b', ha, hb => by simp only [OwnL] at h ⊢; exact ⟨h.1, by omega⟩
  | a, b, vs, T :: Ts, h, a', b', ha, hb => by
    simp only [OwnL] at h ⊢
    obtain ⟨v, ws, c, rfl, h1, h2⟩ := h
    exact ⟨v, ws, c, rfl, h1.wide ha (Nat.le_refl _), h2.wide (Nat.le_refl _) hb⟩
end

theorem OwnL.length {st : St} : ∀ {a b : Nat} {vs Ts : List AV}, OwnL st a b vs Ts → vs.length = Ts.length
  | a, b, vs, [], h => by simp only [OwnL] at h; simp [h.1]
  | a, b, vs, T :: Ts, h => by
    simp only [OwnL] at h
    obtain ⟨v, ws, c, rfl, _, h2⟩ := h
    simp [h2.length]

/-- one element, and what may be put in its place -/
theorem OwnL.at {st : St} : ∀ {a b : Nat} {vs Ts : List AV}, OwnL st a b vs Ts → ∀ {i : Nat} {T : AV}, Ts[i]? = some T → ∃ v x y, vs[i]? = some v ∧ a ≤ x ∧ y ≤ b ∧ Own st x y v T ∧
      ∀ {st' : St} {v' T' : AV}, Own st' x y v' T' → (∀ j, a ≤ j → j < b → ¬ (x ≤ j ∧ j < y) → st'.H j = st.H j) → OwnL st' a b (vs.set i v') (Ts.set i T')
  | a, b, vs, [], h, i, T, hi => by simp at hi
  | a, b, vs, T0 :: Ts, h, 0, T, hi => by
    simp only [OwnL] at h
    obtain ⟨v, ws, c, rfl, h1, h2⟩ := h
    simp at hi; subst hi
    have l1 := h1.le; have l2 := h2.le
    refine ⟨v, a, c, rfl, Nat.le_refl _, l2, h1, fun {st' v' T'} hO hk => ?_⟩
    simp only [List.set_cons_zero, OwnL]
    exact ⟨v', ws, c, rfl, hO, h2.frame fun j hj hj' => hk j (by omega) hj' (by omega)⟩
  | a, b, vs, T0 :: Ts, h, i + 1, T, hi => by
    simp only [OwnL] at h
    obtain ⟨v, ws, c, rfl, h1, h2⟩ := h
    have l1 := h1.le; have l2 := h2.le
    obtain ⟨w, x, y, g1, g2, g3, g4, g5⟩ := h2.at (i := i) (T := T) (by simpa using hi)
    have l3 := g4.le
    refine ⟨w, x, y, by simpa using g1, by omega, g3, g4, fun {st' v' T'} hO hk => ?_⟩
    simp only [List.set_cons_succ, OwnL]
    exact ⟨v, ws.set i v', c, rfl, h1.frame fun j hj hj' => hk j hj (by omega) (by omega), g5 hO fun j hj hj' hn => hk j (by omega) hj' hn⟩

mutual
/-- how deep -/
def dep : AV → Nat
  | .sl _ _ _ es => depL es + 1
  | .agg cs => depL cs
  | _ => 0
def depL : List AV → Nat
  | [] => 0
  | v :: vs => max (dep v) (depL vs)
end

mutual
def thB : AV → Bool
  | .sl _ off s es => Nat.beq off 0 && !Nat.beq s 0 && thBL es
  | .agg cs => cs.all AV.one && thBL cs
  | .bool _ | .int .. | .str _ | .nils => true
  | _ => false
def thBL : List AV → Bool
  | [] => true
  | v :: vs => thB v && thBL vs
end

theorem depL_le {d : Nat} : ∀ {l : List AV}, depL l ≤ d → ∀ v ∈ l, dep v ≤ d
  | [], _, v, hv => by simp at hv
  | w :: l, h, v, hv => by
    simp only [depL] at h
    rcases List.mem_cons.1 hv with rfl | hv
    · omega
    · exact depL_le (by omega) v hv
theorem thBL_iff : ∀ {l : List AV}, thBL l = true ↔ ∀ v ∈ l, thB v = true
  | [] => by simp [thBL]
  | v :: l => by simp [thBL, thBL_iff]

def thOut (a : Nat) (v : AV) (st : St) (r : Option (AV × St)) : Prop := ∃ v' st', r = some (v', st') ∧ a ≤ st'.m ∧ st.m ≤ st'.m ∧ st'.n = st.n ∧ (∀ j, j < st.m → st'.H j = st.H j) ∧ Own st' st.m st'.m v' v

theorem mapS_own {g : AV → St → Option (AV × St)} : ∀ {vs : List AV} {st : St}, (∀ v ∈ vs, ∀ st, thOut 0 v st (g v st)) → ∃ ws st', mapS g vs st = some (ws, st') ∧ st.m ≤ st'.m ∧ st'.n = st.n ∧ (∀ j, j < st.m → st'.H j = st.H j) ∧ OwnL st' st.m st'.m ws vs
  | [], st, h => ⟨[], st, rfl, Nat.le_refl _, rfl, fun _ _ => rfl, by simp [OwnL]⟩
  | v :: vs, st, h => by
    obtain ⟨v', s1, e1, _, a1, a2, a3, a4⟩ := h v List.mem_cons_self st
    obtain ⟨ws, s2, e2, b1, b2, b3, b4⟩ := mapS_own (vs := vs) (st := s1) fun w hw => h w (List.mem_cons_of_mem _ hw)
    refine ⟨v' :: ws, s2, by simp only [mapS, e1, Option.bind_some, e2], by omega, by rw [b2, a2], fun j hj => by rw [b3 j (by omega), a3 j hj], ?_⟩
    simp only [OwnL]
    exact ⟨v', ws, s1.m, rfl, a4.frame fun j hj hj' => b3 j hj', b4⟩

theorem thOne_own {g : AV → St → Option (AV × St)} {v : AV} (h1 : v.one = true) (hb : thB v = true) (hg : ∀ t off s es, v = .sl t off s es → ∀ w ∈ es, ∀ st, thOut 0 w st (g w st)) (st : St) : thOut 0 v st (thOne g v st) := by
  cases v <;> simp [AV.one] at h1 <;> simp [thB] at hb
  case sl t off s es =>
    simp only [nbeq, decide_eq_false_iff_not] at hb
    obtain ⟨⟨h0, h2⟩, _⟩ := hb
    obtain ⟨ws, s1, e1, a1, a2, a3, a4⟩ := mapS_own (vs := es) (st := st) (hg t off s es rfl)
    refine ⟨.lsl s1.m t s 0 es.length, { H := fun i => bif Nat.beq i s1.m then some { tag := t, s := s, es := ws } else s1.H i, m := s1.m + 1, n := s1.n }, ?_, Nat.zero_le _, by simp only; omega, a2, fun j hj => ?_, ?_⟩
    · simp only [thOne, e1, Option.bind_some]
      rw [if_pos ⟨h0, h2⟩]
    · have : j ≠ s1.m := by omega
      simp only [nbeq, this, decide_false, cond_false]; exact a3 j hj
    · simp only [Own]
      refine ⟨h0, s1.m, ws, rfl, by simp [nbeq], by omega, by omega, a4.frame fun j hj hj' => ?_⟩
      have : j ≠ s1.m := by omega
      simp [nbeq, this]
  all_goals exact ⟨_, st, rfl, Nat.zero_le _, Nat.le_refl _, rfl, fun _ _ => rfl, by simp [Own]⟩

theorem tags_dep0 : ∀ {v : AV}, dep v = 0 → thB v = true → v.tags = [] ∧ ∀ st, Own st st.m st.m v v := by
  have key : ∀ v : AV, v.one = true → dep v = 0 → thB v = true → v.tags = [] ∧ ∀ st : St, Own st st.m st.m v v := by
    intro v h1 h0 hb
    cases v <;> simp [AV.one] at h1 <;> simp [dep] at h0 <;> simp [thB] at hb <;> simp [AV.tags, Own]
  intro v h0 hb
  cases v with
  | agg cs =>
    simp only [dep] at h0
    simp only [thB, Bool.and_eq_true] at hb
    have hd := depL_le (d := 0) (by omega) (l := cs)
    have hall : ∀ l : List AV, (∀ v ∈ l, v ∈ cs) → tagsL l = [] ∧ ∀ st : St, OwnL st st.m st.m l l := by
      intro l
      induction l with
      | nil => intro _; simp [tagsL, OwnL]
      | cons w l ih =>
        intro hl
        obtain ⟨i1, i2⟩ := ih fun v hv => hl v (List.mem_cons_of_mem _ hv)
        have hw := hl w List.mem_cons_self
        obtain ⟨k1, k2⟩ := key w (List.all_eq_true.1 hb.1 w hw) (Nat.le_zero.1 (hd w hw)) (thBL_iff.1 hb.2 w hw)
        refine ⟨by simp [tagsL, k1, i1], fun st => ?_⟩
        simp only [OwnL]
        exact ⟨w, l, st.m, rfl, k2 st, i2 st⟩
    obtain ⟨i1, i2⟩ := hall cs fun _ h => h
    exact ⟨by simp only [AV.tags]; exact i1, fun st => by simp only [Own]; exact ⟨cs, rfl, i2 st⟩⟩
  | _ => first | exact key _ rfl h0 hb | simp [thB] at hb

theorem thD_own : ∀ (d : Nat) {v : AV}, dep v ≤ d → thB v = true → ∀ st, thOut 0 v st (thD d v st)
  | 0, v, hd, hb, st => by
    obtain ⟨k1, k2⟩ := tags_dep0 (Nat.le_zero.1 hd) hb
    simp only [thD, k1]
    exact ⟨v, st, rfl, Nat.zero_le _, Nat.le_refl _, rfl, fun _ _ => rfl, k2 st⟩
  | d + 1, v, hd, hb, st => by
    have one : ∀ w : AV, w.one = true → dep w ≤ d + 1 → thB w = true → ∀ st, thOut 0 w st (thOne (thD d) w st) := by
      intro w h1 h2 h3 st
      refine thOne_own h1 h3 (fun t off s es e x hx st => ?_) st
      subst e
      simp only [dep] at h2
      simp only [thB, Bool.and_eq_true] at h3
      exact thD_own d (depL_le (by omega) x hx) (thBL_iff.1 h3.2 x hx) st
    simp only [thD]
    cases v with
    | agg cs =>
      simp only [dep] at hd
      simp only [thB, Bool.and_eq_true] at hb
      obtain ⟨ws, s1, e1, a1, a2, a3, a4⟩ := mapS_own (g := thOne (thD d)) (vs := cs) (st := st) fun w hw st => one w (List.all_eq_true.1 hb.1 w hw) (depL_le hd w hw) (thBL_iff.1 hb.2 w hw) st
      refine ⟨.agg ws, s1, by simp only [thVal, e1, Option.bind_some], Nat.zero_le _, a1, a2, a3, ?_⟩
      simp only [Own]; exact ⟨ws, rfl, a4⟩
    | _ => first | exact one _ rfl hd hb st | simp [thB] at hb

/-- a result all of whose slices are new -/
def Fresh (n n' : Nat) (v : AV) : Prop := nodupB v.tags = true ∧ (∀ t ∈ v.tags, n ≤ t ∧ t < n') ∧ thB v = true ∧ dep v ≤ 6

theorem thaw_own {n0 : Nat} {v : AV} {st : St} (h : Fresh n0 st.n v) (hv : ∀ vs, v ≠ .tup vs) : ∃ v' st', thaw 6 n0 v st = some (v', st') ∧ st.m ≤ st'.m ∧ st'.n = st.n ∧ (∀ j, j < st.m → st'.H j = st.H j) ∧ Own st' st.m st'.m v' v := by
  obtain ⟨h1, h2, h3, h4⟩ := h
  obtain ⟨v', s', e, _, a1, a2, a3, a4⟩ := thD_own 6 h4 h3 st
  refine ⟨v', s', ?_, a1, a2, a3, a4⟩
  have h5 : (v.tags.all fun t => Nat.ble n0 t && Nat.blt t st.n) = true := by
    rw [List.all_eq_true]
    intro t ht
    have := h2 t ht
    simp only [Bool.and_eq_true]
    exact ⟨Nat.ble_eq_true_of_le this.1, by unfold Nat.blt; exact Nat.ble_eq_true_of_le this.2⟩
  unfold thaw
  rw [if_pos ⟨h1, h5⟩]
  cases v <;> first | exact e | exact absurd rfl (hv _)

/-! ### read -/
theorem resOne_mono {st : St} {g g' : AV → Option AV} (h : ∀ v T, g v = some T → g' v = some T) {v T : AV} (k : resOne st g v = some T) : resOne st g' v = some T := by
  have hm : ∀ {l r : List AV}, mapO g l = some r → mapO g' l = some r := by
    intro l
    induction l with
    | nil => intro r h; exact h
    | cons x l ih =>
      intro r hr
      simp only [mapO] at hr ⊢
      obtain ⟨y, h1, hr⟩ := bind_some hr
      obtain ⟨z, h2, hr⟩ := bind_some hr
      rw [h x y h1, Option.bind_some, ih h2]; exact hr
  cases v <;> try exact k
  case lsl j t s off len =>
    simp only [resOne] at k ⊢
    obtain ⟨a, h1, k⟩ := bind_some k
    rw [h1, Option.bind_some]
    by_cases hl : off + len ≤ a.es.length
    · rw [if_pos hl] at k ⊢
      obtain ⟨es, h2, k⟩ := bind_some k
      rw [hm h2]; exact k
    · rw [if_neg hl] at k; cases k

mutual
theorem Own.resD {st : St} : ∀ {a b : Nat} {v T : AV}, Own st a b v T → thB T = true → ∀ d, dep T ≤ d → resD st (d + 1) v = some T
  | a, b, v, .sl t off s es, h, hb, 0, hd => by simp [dep] at hd
  | a, b, v, .sl t off s es, h, hb, d + 1, hd => by
    simp only [Own] at h
    obtain ⟨rfl, j, vs, rfl, h1, h2, h3, h4⟩ := h
    simp only [dep] at hd
    simp only [thB, Bool.and_eq_true] at hb
    have hl := h4.length
    show resOne st (Go.Proofs.YtilbmpdeginabaaFw.resD st (d + 1)) (.lsl j t s 0 es.length) = _
    simp only [resOne, get_H h1, Option.bind_some, Nat.zero_add, hl, Nat.le_refl, if_true, List.drop_zero]
    rw [List.take_of_length_le (by omega), h4.resD hb.2 d (by omega)]; rfl
  | a, b, v, .agg cs, h, hb, d, hd => by
    simp only [Own] at h
    obtain ⟨ws, rfl, h⟩ := h
    simp only [dep] at hd
    simp only [thB, Bool.and_eq_true] at hb
    show (mapO (resOne st (Go.Proofs.YtilbmpdeginabaaFw.resD st d)) ws).bind _ = _
    rw [h.resC hb.2 hb.1 d hd]; rfl
  | a, b, v, .bool x, h, hb, d, hd => by simp only [Own] at h; rw [h.1]; rfl
  | a, b, v, .int _ x, h, hb, d, hd => by simp only [Own] at h; rw [h.1]; rfl
  | a, b, v, .str x, h, hb, d, hd => by simp only [Own] at h; rw [h.1]; rfl
  | a, b, v, .nils, h, hb, d, hd => by simp only [Own] at h; rw [h.1]; rfl
  | a, b, v, .undef, h, _, _, _ => by simp [Own] at h
  | a, b, v, .nilp, h, _, _, _ => by simp [Own] at h
  | a, b, v, .ptr .., h, _, _, _ => by simp [Own] at h
  | a, b, v, .eptr .., h, _, _, _ => by simp [Own] at h
  | a, b, v, .lsl .., h, _, _, _ => by simp [Own] at h
  | a, b, v, .tup .., h, _, _, _ => by simp [Own] at h
theorem OwnL.resD {st : St} : ∀ {a b : Nat} {vs Ts : List AV}, OwnL st a b vs Ts → thBL Ts = true → ∀ d, depL Ts ≤ d → mapO (resD st (d + 1)) vs = some Ts
  | a, b, vs, [], h, hb, d, hd => by simp only [OwnL] at h; rw [h.1]; rfl
  | a, b, vs, T :: Ts, h, hb, d, hd => by
    simp only [OwnL] at h
    obtain ⟨v, ws, c, rfl, h1, h2⟩ := h
    simp only [depL] at hd
    simp only [thBL, Bool.and_eq_true] at hb
    simp only [mapO, h1.resD hb.1 d (by omega), Option.bind_some, h2.resD hb.2 d (by omega)]
theorem OwnL.resC {st : St} : ∀ {a b : Nat} {vs Ts : List AV}, OwnL st a b vs Ts → thBL Ts = true → Ts.all AV.one = true → ∀ d, depL Ts ≤ d → mapO (resOne st (resD st d)) vs = some Ts
  | a, b, vs, [], h, hb, ho, d, hd => by simp only [OwnL] at h; rw [h.1]; rfl
  | a, b, vs, T :: Ts, h, hb, ho, d, hd => by
    simp only [OwnL] at h
    obtain ⟨v, ws, c, rfl, h1, h2⟩ := h
    simp only [depL] at hd
    simp only [thBL, Bool.and_eq_true] at hb
    simp only [List.all_cons, Bool.and_eq_true] at ho
    have e1 := h1.resD hb.1 d (by omega)
    have e2 : resOne st (Go.Proofs.YtilbmpdeginabaaFw.resD st d) v = some T := by
      cases T <;> simp [AV.one] at ho <;> simp [thB] at hb <;> simp only [Own] at h1
      case sl t off s es => obtain ⟨_, j, vs, rfl, _⟩ := h1; exact e1
      all_goals (rw [h1.1]; rfl)
    simp only [mapO, e2, Option.bind_some, h2.resC hb.2 ho.2 d (by omega)]
end

theorem Own.res {st : St} {a b : Nat} {v T : AV} (h : Own st a b v T) (hb : thB T = true) (hd : dep T ≤ 5) : res st v = some T := h.resD hb 5 hd

end Go.Proofs.YtilbmpdeginabaaFw
