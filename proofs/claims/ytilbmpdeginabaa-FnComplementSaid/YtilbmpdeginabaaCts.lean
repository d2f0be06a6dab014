/- What the functions that the law reaches give back. Conditions: those of each theorem. -/
import Derived.Test.YtilbmpdeginabaaEqs
set_option linter.unusedSimpArgs false
set_option linter.unusedVariables false
namespace Go.Proofs.YtilbmpdeginabaaFw
open Go

theorem nodupB_of {l : List Nat} (h : l.Nodup) : nodupB l = true := by
  induction l with
  | nil => rfl
  | cons t l ih =>
    rw [List.nodup_cons] at h
    simp only [nodupB, Bool.and_eq_true, Bool.not_eq_true']
    exact ⟨by simpa using h.1, ih h.2⟩
theorem tagsL_append : ∀ (a b : List AV), tagsL (a ++ b) = tagsL a ++ tagsL b
  | [], b => rfl
  | v :: a, b => by simp [tagsL, tagsL_append a b]
theorem thBL_append : ∀ (a b : List AV), thBL (a ++ b) = (thBL a && thBL b)
  | [], b => rfl
  | v :: a, b => by simp [thBL, thBL_append a b, Bool.and_assoc]
theorem depL_append : ∀ (a b : List AV), depL (a ++ b) = max (depL a) (depL b)
  | [], b => by simp [depL]
  | v :: a, b => by simp [depL, depL_append a b, Nat.max_assoc]

/-- all slices new, their tags in [n, n') -/
def New (d n n' : Nat) (v : AV) : Prop := v.tags.Nodup ∧ (∀ t ∈ v.tags, n ≤ t ∧ t < n') ∧ thB v = true ∧ dep v ≤ d
def NewL (d n n' : Nat) (vs : List AV) : Prop := (tagsL vs).Nodup ∧ (∀ t ∈ tagsL vs, n ≤ t ∧ t < n') ∧ thBL vs = true ∧ depL vs ≤ d

mutual
theorem dep_tags : ∀ {v : AV}, dep v = 0 → thB v = true → v.tags = []
  | .sl .., h, _ => by simp [dep] at h
  | .agg cs, h, k => by
    simp only [dep] at h; simp only [thB, Bool.and_eq_true] at k
    simp only [AV.tags]; exact depL_tags h k.2
  | .bool _, _, _ => rfl
  | .int .., _, _ => rfl
  | .str _, _, _ => rfl
  | .nils, _, _ => rfl
  | .undef, _, k => by simp [thB] at k
  | .nilp, _, k => by simp [thB] at k
  | .ptr .., _, k => by simp [thB] at k
  | .eptr .., _, k => by simp [thB] at k
  | .lsl .., _, k => by simp [thB] at k
  | .tup .., _, k => by simp [thB] at k
theorem depL_tags : ∀ {vs : List AV}, depL vs = 0 → thBL vs = true → tagsL vs = []
  | [], _, _ => rfl
  | v :: vs, h, k => by
    simp only [depL] at h; simp only [thBL, Bool.and_eq_true] at k
    simp [tagsL, dep_tags (by omega) k.1, depL_tags (by omega) k.2]
end

theorem New.flat {d n n' : Nat} {v : AV} (h : dep v = 0) (k : thB v = true) : New d n n' v := by
  have := dep_tags h k
  exact ⟨by rw [this]; exact List.nodup_nil, by rw [this]; simp, k, by omega⟩
theorem NewL.nil {d n n' : Nat} : NewL d n n' [] := ⟨List.nodup_nil, by simp [tagsL], rfl, by simp [depL]⟩
theorem NewL.snoc {d n n1 n2 : Nat} {vs : List AV} {v : AV} (h : NewL d n n1 vs) (k : New d n1 n2 v) (h1 : n ≤ n1) (h2 : n1 ≤ n2) : NewL d n n2 (vs ++ [v]) := by
  obtain ⟨a1, a2, a3, a4⟩ := h
  obtain ⟨b1, b2, b3, b4⟩ := k
  have e : tagsL (vs ++ [v]) = tagsL vs ++ v.tags := by simp [tagsL_append, tagsL]
  refine ⟨?_, ?_, by simp [thBL_append, thBL, a3, b3], by simp [depL_append, depL]; omega⟩
  · rw [e, List.nodup_append]
    refine ⟨a1, b1, fun x hx y hy => ?_⟩
    have := a2 x hx; have := b2 y hy; omega
  · rw [e]; intro t ht
    rcases List.mem_append.1 ht with ht | ht
    · have := a2 t ht; omega
    · have := b2 t ht; omega
theorem NewL.cons {d n n1 n2 : Nat} {vs : List AV} {v : AV} (h : New d n n1 v) (k : NewL d n1 n2 vs) (h1 : n ≤ n1) (h2 : n1 ≤ n2) : NewL d n n2 (v :: vs) := by
  obtain ⟨a1, a2, a3, a4⟩ := h
  obtain ⟨b1, b2, b3, b4⟩ := k
  refine ⟨?_, ?_, by simp [thBL, a3, b3], by simp only [depL]; omega⟩
  · simp only [tagsL]; rw [List.nodup_append]
    refine ⟨a1, b1, fun x hx y hy => ?_⟩
    have := a2 x hx; have := b2 y hy; omega
  · simp only [tagsL]; intro t ht
    rcases List.mem_append.1 ht with ht | ht
    · have := a2 t ht; omega
    · have := b2 t ht; omega
theorem New.wide {d d' n n' m m' : Nat} {v : AV} (h : New d n n' v) (hd : d ≤ d') (h1 : m ≤ n) (h2 : n' ≤ m') : New d' m m' v :=
  ⟨h.1, fun t ht => by have := h.2.1 t ht; omega, h.2.2.1, by have := h.2.2.2; omega⟩
theorem NewL.wide {d d' n n' m m' : Nat} {v : List AV} (h : NewL d n n' v) (hd : d ≤ d') (h1 : m ≤ n) (h2 : n' ≤ m') : NewL d' m m' v :=
  ⟨h.1, fun t ht => by have := h.2.1 t ht; omega, h.2.2.1, by have := h.2.2.2; omega⟩
theorem New.sl {d n n' t s : Nat} {es : List AV} (h : NewL d (t + 1) n' es) (h1 : n ≤ t) (h2 : t < n') (h3 : s ≠ 0) : New (d + 1) n n' (.sl t 0 s es) := by
  obtain ⟨a1, a2, a3, a4⟩ := h
  refine ⟨?_, ?_, by simp [thB, nbeq, h3, a3], by simp only [dep]; omega⟩
  · simp only [AV.tags, List.nodup_cons]
    exact ⟨fun hm => by have := a2 t hm; omega, a1⟩
  · simp only [AV.tags]; intro x hx
    rcases List.mem_cons.1 hx with rfl | hx
    · omega
    · have := a2 x hx; omega
/-- the array's tag behind its elements' (appended) -/
theorem New.sl' {d n n' t s : Nat} {es : List AV} (h : NewL d n t es) (h1 : n ≤ t) (h2 : t < n') (h3 : s ≠ 0) : New (d + 1) n n' (.sl t 0 s es) := by
  obtain ⟨a1, a2, a3, a4⟩ := h
  refine ⟨?_, ?_, by simp [thB, nbeq, h3, a3], by simp only [dep]; omega⟩
  · simp only [AV.tags, List.nodup_cons]
    exact ⟨fun hm => by have := a2 t hm; omega, a1⟩
  · simp only [AV.tags]; intro x hx
    rcases List.mem_cons.1 hx with rfl | hx
    · omega
    · have := a2 x hx; omega
/-- flat elements -/
theorem NewL.flat {d n n' : Nat} {vs : List AV} (h : depL vs = 0) (k : thBL vs = true) : NewL d n n' vs := by
  have := depL_tags h k
  exact ⟨by rw [this]; exact List.nodup_nil, by rw [this]; simp, k, by omega⟩
theorem flatL {vs : List AV} (h : ∀ v ∈ vs, dep v = 0 ∧ thB v = true) : depL vs = 0 ∧ thBL vs = true := by
  induction vs with
  | nil => exact ⟨rfl, rfl⟩
  | cons v vs ih =>
    obtain ⟨a, b⟩ := h v List.mem_cons_self
    obtain ⟨c, d⟩ := ih fun w hw => h w (List.mem_cons_of_mem _ hw)
    exact ⟨by simp [depL, a, c], by simp [thBL, b, d]⟩
theorem New.nils {d n n' : Nat} : New d n n' .nils := New.flat rfl rfl
theorem New.agg {d n n' : Nat} {cs : List AV} (h : NewL d n n' cs) (k : cs.all AV.one = true) : New d n n' (.agg cs) :=
  ⟨h.1, h.2.1, by simp only [thB, Bool.and_eq_true]; exact ⟨k, h.2.2.1⟩, h.2.2.2⟩
theorem New.fresh {n n' : Nat} {v : AV} {d : Nat} (h : New d n n' v) (hd : d ≤ 6) : Fresh n n' v := ⟨nodupB_of h.1, h.2.1, h.2.2.1, by have := h.2.2.2; omega⟩

theorem All2.mem {α : Type} {R : AV → α → Prop} : ∀ {es : List AV} {l : List α}, All2 R es l → ∀ e ∈ es, ∃ x ∈ l, R e x
  | [], _, _, e, he => by simp at he
  | a :: es, l, h, e, he => by
    simp only [All2] at h
    obtain ⟨b, r, rfl, h1, h2⟩ := h
    rcases List.mem_cons.1 he with rfl | he
    · exact ⟨b, List.mem_cons_self, h1⟩
    · obtain ⟨x, hx, hr⟩ := h2.mem e he
      exact ⟨x, List.mem_cons_of_mem _ hx, hr⟩

/-- a loop that fills a fresh array -/
theorem to_loop {α ρ : Type} {R : AV → α → Prop} {d n0 : Nat} (Lp : Nat → St → Option ρ) (l : List α) (t s j : Nat) (z : AV)
    (step : ∀ (ds : List AV) (x : α) (k : Nat) (st : St), l[ds.length]? = some x → st.H j = some ⟨t, s, ds ++ z :: List.replicate k z⟩ → ds.length + 1 + k = l.length →
      ∃ v n', R v x ∧ New d st.n n' v ∧ st.n ≤ n' ∧ Lp ds.length st = Lp (ds.length + 1) ((st.put j ⟨t, s, ds ++ v :: List.replicate k z⟩).setN n')) :
    ∀ (k : Nat) (ds : List AV) (st : St), ds.length + k = l.length → st.H j = some ⟨t, s, ds ++ List.replicate k z⟩ → n0 ≤ st.n → NewL d n0 st.n ds → All2 R ds (l.take ds.length) →
      ∃ es st', Lp ds.length st = Lp l.length st' ∧ st'.H j = some ⟨t, s, es⟩ ∧ All2 R es l ∧ NewL d n0 st'.n es ∧ st.n ≤ st'.n ∧ (∀ i, i ≠ j → st'.H i = st.H i) ∧ st'.m = st.m
  | 0, ds, st, h, hH, hn, hF, hA => by
    refine ⟨ds, st, by rw [← h]; rfl, by simpa using hH, by rwa [List.take_of_length_le (by omega)] at hA, hF, Nat.le_refl _, fun _ _ => rfl, rfl⟩
  | k + 1, ds, st, h, hH, hn, hF, hA => by
    have hi : ds.length < l.length := by omega
    obtain ⟨v, n', h1, h2, h3, h4⟩ := step ds l[ds.length] k st (List.getElem?_eq_getElem hi) hH (by omega)
    obtain ⟨es, st', g1, g2, g3, g4, g5, g6, g7⟩ := to_loop Lp l t s j z step k (ds ++ [v]) ((st.put j ⟨t, s, ds ++ v :: List.replicate k z⟩).setN n') (by simp; omega)
      (by simp [St.setN, St.put]) (by simp [setN_n]; omega) (hF.snoc h2 hn h3) (by
        rw [List.length_append, List.length_singleton, List.take_add_one, List.getElem?_eq_getElem hi]
        exact hA.append (by simp only [Option.toList, All2]; exact ⟨_, _, rfl, h1, rfl⟩))
    refine ⟨es, st', ?_, g2, g3, g4, by simp [setN_n] at g5; omega, fun i hi => ?_, g7⟩
    · rw [h4, ← g1, List.length_append, List.length_singleton]
    · rw [g6 i hi]; simp [St.setN, St.put, nbeq, hi]

theorem eq_loop {α ρ : Type} [DecidableEq α] (Lp : Nat → Nat → Option ρ) (l1 l2 : List α) (e r : Nat → ρ) (hl : l1.length = l2.length) (he : ∀ n, Lp l1.length n = some (e n))
    (step : ∀ i x y n, l1[i]? = some x → l2[i]? = some y → ∃ n', n ≤ n' ∧ Lp i n = if x = y then Lp (i + 1) n' else some (r n')) :
    ∀ (k i n : Nat), i + k = l1.length → ∃ n', n ≤ n' ∧ Lp i n = some (if l1.drop i = l2.drop i then e n' else r n')
  | 0, i, n, h => by
    have : i = l1.length := by omega
    subst this
    exact ⟨n, Nat.le_refl _, by rw [he, if_pos (by rw [List.drop_length, hl, List.drop_length])]⟩
  | k + 1, i, n, h => by
    have h1 : i < l1.length := by omega
    have h2 : i < l2.length := by omega
    obtain ⟨n', g1, g2⟩ := step i l1[i] l2[i] n (List.getElem?_eq_getElem h1) (List.getElem?_eq_getElem h2)
    rw [g2, List.drop_eq_getElem_cons h1, List.drop_eq_getElem_cons h2]
    by_cases hx : l1[i] = l2[i]
    · obtain ⟨n2, f1, f2⟩ := eq_loop Lp l1 l2 e r hl he step k (i + 1) n' (by omega)
      rw [if_pos hx, f2]
      refine ⟨n2, Nat.le_trans g1 f1, ?_⟩
      simp only [hx, List.cons.injEq, true_and]
    · rw [if_neg hx]
      exact ⟨n', g1, by rw [if_neg fun h => hx (List.cons.inj h).1]⟩

theorem sz_loop {α ρ : Type} {c : α → Nat} (Lp : Nat → Int → Nat → Option ρ) (l : List α) (e r : Int → Nat → ρ) (he : ∀ z n, Lp l.length z n = some (e z n))
    (step : ∀ (i : Nat) (x : α) (left : Int) (n : Nat), l[i]? = some x → 0 ≤ left → left ≤ 1048576 → ∃ (z : Int) (n' : Nat), n ≤ n' ∧ z ≤ left ∧ (0 ≤ z → z = left - c x) ∧ Lp i left n = if z < 0 then some (r z n') else Lp (i + 1) z n') :
    ∀ (k i : Nat) (left : Int) (n : Nat), i + k = l.length → 0 ≤ left → left ≤ 1048576 →
      ∃ n', n ≤ n' ∧ ((∃ z, 0 ≤ z ∧ z = left - cntL c (l.drop i) ∧ Lp i left n = some (e z n')) ∨ ∃ z, z < 0 ∧ Lp i left n = some (r z n'))
  | 0, i, left, n, h, h0, h1 => by
    have : i = l.length := by omega
    subst this
    exact ⟨n, Nat.le_refl _, .inl ⟨left, h0, by simp [cntL], he _ _⟩⟩
  | k + 1, i, left, n, h, h0, h1 => by
    have hi : i < l.length := by omega
    obtain ⟨z, n', g1, g2, g3, g4⟩ := step i l[i] left n (List.getElem?_eq_getElem hi) h0 h1
    by_cases hz : z < 0
    · exact ⟨n', g1, .inr ⟨z, hz, by rw [g4, if_pos hz]⟩⟩
    · obtain ⟨n2, f1, f2⟩ := sz_loop Lp l e r he step k (i + 1) z n' (by omega) (by omega) (by omega)
      refine ⟨n2, Nat.le_trans g1 f1, ?_⟩
      rw [g4, if_neg hz, List.drop_eq_getElem_cons hi]
      have := g3 (by omega)
      rcases f2 with ⟨y, y0, y1, y2⟩ | f2
      · exact .inl ⟨y, y0, by simp only [cntL]; omega, y2⟩
      · exact .inr f2

/-- what is held after marks -/
theorem held_loop {α ρ : Type} {R : AV → α → Prop} {mk : α → Int → α} {c : α → Nat} (Lp : Nat → Int → Nat → Option ρ) (es : List AV)
    (step : ∀ i e x k n, es[i]? = some e → R e (mk x k) → 0 ≤ k → k + c x ≤ 4611686018427387904 → ∃ n', n ≤ n' ∧ Lp i k n = Lp (i + 1) (k + c x) n') :
    ∀ (l : List α) (i : Nat) (k : Int) (n : Nat), All2 R (es.drop i) (mkL mk c l k) → i ≤ es.length → 0 ≤ k → k + cntL c l ≤ 4611686018427387904 → ∃ n', n ≤ n' ∧ Lp i k n = Lp es.length (k + cntL c l) n'
  | [], i, k, n, h, hi, _, _ => by
    have := h.length
    simp [mkL] at this
    have : i = es.length := by omega
    subst this
    exact ⟨n, Nat.le_refl _, by simp [cntL]⟩
  | x :: l, i, k, n, h, hi, h0, hc => by
    have hl := h.length
    simp only [mkL, List.length_cons, List.length_drop] at hl
    have hi' : i < es.length := by omega
    rw [List.drop_eq_getElem_cons hi'] at h
    simp only [mkL, All2] at h
    obtain ⟨b, r, e, h1, h2⟩ := h
    cases e
    simp only [cntL] at hc
    obtain ⟨n', g1, g2⟩ := step i es[i] x k n (List.getElem?_eq_getElem hi') h1 h0 (by omega)
    obtain ⟨n2, f1, f2⟩ := held_loop Lp es step l (i + 1) (k + c x) n' h2 (by omega) (by omega) (by omega)
    refine ⟨n2, Nat.le_trans g1 f1, ?_⟩
    rw [g2, f2]
    simp only [cntL]
    rw [show k + (c x : Int) + (cntL c l : Nat) = k + ((c x + cntL c l : Nat) : Int) by omega]

def iota (_ : Int) (k : Int) : Int := k
def mkB (_ : Bool) (k : Int) : Bool := decide (k.tmod 3 = 0)
theorem cnt_one {α : Type} : ∀ (l : List α), cntL (fun _ => 1) l = l.length
  | [] => rfl
  | x :: l => by simp [cntL, cnt_one l]; omega

theorem slof_thB {α : Type} {s d : Nat} {R : AV → α → Prop} {st : St} {a b : Nat} {v T : AV} {l : List α} (hs : s ≠ 0) (h : SlOf s R T l) (k : Own st a b v T)
    (he : ∀ (st : St) (a b : Nat) (v T : AV) (x : α), R T x → Own st a b v T → Go.Proofs.YtilbmpdeginabaaFw.thB T = true ∧ dep T ≤ d) : Go.Proofs.YtilbmpdeginabaaFw.thB T = true ∧ dep T ≤ d + 1 := by
  rcases k.slice h with ⟨_, rfl, _⟩ | ⟨t, j, vs, es, rfl, _, _, _, _, h5, h6⟩
  · exact ⟨rfl, by simp [dep]⟩
  · have h7 : ∀ (es : List AV) (l : List α) (vs : List AV) (a : Nat), All2 R es l → OwnL st a j vs es → thBL es = true ∧ depL es ≤ d := by
      intro es
      induction es with
      | nil => intro l _ _ _ _; exact ⟨rfl, by simp [depL]⟩
      | cons e es ih =>
        intro l vs a h h'
        simp only [All2] at h
        simp only [OwnL] at h'
        obtain ⟨b, r, _, hr, h⟩ := h
        obtain ⟨w, ws, c, _, o1, o2⟩ := h'
        obtain ⟨i1, i2⟩ := ih r _ _ h o2
        obtain ⟨j1, j2⟩ := he _ _ _ _ _ _ hr o1
        exact ⟨by simp [thBL, j1, i1], by simp only [depL]; omega⟩
    obtain ⟨g1, g2⟩ := h7 es l vs a h6 h5
    exact ⟨by simp [Go.Proofs.YtilbmpdeginabaaFw.thB, g1, nbeq, hs], by simp only [dep]; omega⟩

def Helds (f : Nat) {α : Type} (P : AV → α → Prop) (mk : α → Int → α) (c : α → Nat) : Prop :=
  ∀ (v : AV) (x : α) (k : Int) (n : Nat), P v (mk x k) → 0 ≤ k → k + c x ≤ 4611686018427387904 → Ok (L.call f [v, .int .i64 k] n) fun p => n ≤ p.2 ∧ p.1 = .int .i64 (k + c x)

theorem resD_setN (E : St) (n : Nat) : ∀ (d : Nat) (v : AV), resD (E.setN n) d v = resD E d v
  | 0, _ => rfl
  | d + 1, v => by
    have h : resD (E.setN n) d = resD E d := funext (resD_setN E n d)
    simp only [resD, h]; rfl
theorem res_setN (E : St) (n : Nat) (v : AV) : res (E.setN n) v = res E v := resD_setN E n 6 v
theorem res_setN' (E : St) (n : Nat) : res (E.setN n) = res E := funext (res_setN E n)
theorem locD_setN (E : St) (n : Nat) : ∀ (d : Nat) (v : AV), locD (E.setN n) d v = locD E d v
  | 0, _ => rfl
  | d + 1, v => by
    have h : locD (E.setN n) d = locD E d := funext (locD_setN E n d)
    simp only [locD, h]; rfl
theorem locs_setN (E : St) (n : Nat) (vs : List AV) : locs (E.setN n) vs = locs E vs := by
  have h : locD (E.setN n) 6 = locD E 6 := funext (locD_setN E n 6)
  simp only [locs, h]

theorem Own.setN {E : St} {n a b : Nat} {v T : AV} (h : Own E a b v T) : Own (E.setN n) a b v T := h.frame fun _ _ _ => rfl
theorem Own.unN {E : St} {n a b : Nat} {v T : AV} (h : Own (E.setN n) a b v T) : Own E a b v T := h.frame fun _ _ _ => rfl

section
variable {β : Type} {R : Sys}

/-- a call whose result is a scalar, or whose arguments are no local arrays: n grows alone -/
theorem Ok.callS {E : St} {n f : Nat} {xs ts : List AV} {P : AV × Nat → Prop} {K : AV × St → Option β} {Q : β → Prop} (hr : mapO (res E) xs = some ts) (hc : Ok (R.call f ts n) P)
    (hs : ∀ r n', P (r, n') → ∀ ls, reloc ls r = some r) (k : ∀ r n', P (r, n') → Ok (K (r, E.setN n')) Q) : Ok ((clV R f 0 xs (E.setN n)).bind K) Q := by
  obtain ⟨⟨r, n'⟩, e, h⟩ := hc
  simp only [clV, res_setN', hr, Option.bind_some, setN_n, e, hs r n' h]
  exact k r n' h
theorem Ok.callP {E : St} {n f : Nat} {xs : List AV} {P : AV × Nat → Prop} {K : AV × St → Option β} {Q : β → Prop} (hp : ∀ x ∈ xs, Plain x) (hc : Ok (R.call f xs n) P)
    (k : ∀ r n', P (r, n') → Ok (K (r, E.setN n')) Q) : Ok ((clV R f 0 xs (E.setN n)).bind K) Q := Ok.call (st := E.setN n) hc hp k
/-- the result is taken over -/
theorem Ok.callT {E : St} {d n f : Nat} {xs ts : List AV} {P : AV × Nat → Prop} {K : AV × St → Option β} {Q : β → Prop} (hr : mapO (res E) xs = some ts) (hc : Ok (R.call f ts n) P)
    (hf : ∀ r n', P (r, n') → New d n n' r) (hd : d ≤ 6) (k : ∀ r n' v E', P (r, n') → E.m ≤ E'.m → (∀ j, j < E.m → E'.H j = E.H j) → Own E' E.m E'.m v r → Ok (K (v, E'.setN n')) Q) :
    Ok ((clV R f 6 xs (E.setN n)).bind K) Q := by
  obtain ⟨⟨r, n'⟩, e, h⟩ := hc
  have hN := hf r n' h
  have ht : ∀ vs, r ≠ .tup vs := fun vs e => by rw [e] at hN; simp [New, thB] at hN
  obtain ⟨v, st', t1, t2, t3, t4, t5⟩ := thaw_own (st := E.setN n') (hN.fresh hd) ht
  have hx : clV R f 6 xs (E.setN n) = some (v, st') := by
    simp only [clV, res_setN', hr, Option.bind_some, setN_n, e]
    exact t1
  rw [hx]
  have := k r n' v st' h t2 t4 t5
  rw [show st'.setN n' = st' by rw [← show st'.n = n' from t3]; rfl] at this
  exact this

theorem Ok.inl {f : Nat} {xs : List AV} {st : St} {P : AV × St → Prop} {K : AV × St → Option β} {Q : β → Prop} (hc : Ok (R.inl f xs st) P) (k : ∀ (v : AV) (E : St) (n : Nat), P (v, E.setN n) → Ok (K (v, E.setN n)) Q) : Ok ((R.inl f xs st).bind K) Q := by
  obtain ⟨⟨v, st'⟩, e, h⟩ := hc
  rw [e]; exact k v st' st'.n h

theorem Ok.mkNew {E : St} {n : Nat} {e : AV} {K : AV → St → Option β} {Q : β → Prop} (h : e.stor = true) (h0 : e.cells.length ≠ 0) (k : ∀ (E' : St), E'.m = E.m + 1 → (∀ j, j < E.m → E'.H j = E.H j) → E'.H E.m = some ⟨n, e.cells.length, [e]⟩ → Ok (K (.ptr E.m n 0 0) (E'.setN (n + 1))) Q) : Ok (mkNew e (E.setN n) K) Q := by
  rw [mkNew_eq h h0]
  exact k ((E.setN n).new e.cells.length [e]) rfl (fun j hj => new_H_ne (Nat.ne_of_lt hj)) (new_H _ _ _)
end

theorem mapO1 {g : AV → Option AV} {x y : AV} (h : g x = some y) : mapO g [x] = some [y] := by simp [mapO, h]
theorem mapO2 {g : AV → Option AV} {x y x' y' : AV} (h : g x = some x') (k : g y = some y') : mapO g [x, y] = some [x', y'] := by simp [mapO, h, k]
theorem mapO3 {g : AV → Option AV} {x y z x' y' z' : AV} (h : g x = some x') (k : g y = some y') (l : g z = some z') : mapO g [x, y, z] = some [x', y', z'] := by simp [mapO, h, k, l]
theorem mapO4 {g : AV → Option AV} {x y z u x' y' z' u' : AV} (h : g x = some x') (k : g y = some y') (l : g z = some z') (m : g u = some u') : mapO g [x, y, z, u] = some [x', y', z', u'] := by simp [mapO, h, k, l, m]
theorem mapO_int {g : AV → Option AV} {E : St} {k : IntKind} {i : Int} : res E (.int k i) = some (.int k i) := rfl

theorem scal_bool {n : Nat} {b : Bool} {P : AV × Nat → Prop} (h : ∀ r n', P (r, n') → r = .bool b) : ∀ r n', P (r, n') → ∀ ls, reloc ls r = some r := fun r n' p ls => by rw [h r n' p]; exact reloc_bool ls b
theorem scal_b {b : Bool} {n : Nat} : ∀ r n', (fun p : AV × Nat => n ≤ p.2 ∧ p.1 = .bool b) (r, n') → ∀ ls, reloc ls r = some r := fun r n' p ls => by
  have : r = .bool b := p.2
  rw [this]; exact reloc_bool ls b
theorem scal_i {k : IntKind} {b : Int} {n : Nat} : ∀ r n', (fun p : AV × Nat => n ≤ p.2 ∧ p.1 = .int k b) (r, n') → ∀ ls, reloc ls r = some r := fun r n' p ls => by
  have : r = .int k b := p.2
  rw [this]; exact reloc_int ls k b

section
variable {α β ρ σ : Type}
theorem Ok.loop {Lp : Nat → σ → Option ρ} {I : Nat → σ → Prop} {Q : ρ → Prop} (n : Nat) (he : ∀ s, I n s → Ok (Lp n s) Q)
    (hs : ∀ i s, i < n → I i s → (∀ s', I (i + 1) s' → Ok (Lp (i + 1) s') Q) → Ok (Lp i s) Q) : ∀ k i s, i + k = n → I i s → Ok (Lp i s) Q
  | 0, i, s, h, hi => by
    have : i = n := by omega
    subst this; exact he s hi
  | k + 1, i, s, h, hi => hs i s (by omega) hi fun s' h' => Ok.loop n he hs k (i + 1) s' (by omega) h'

/-- a local array that grows -/
def Acc (n0 : Nat) (st : St) (s : Nat) (v : AV) (es : List AV) : Prop :=
  (v = .nils ∧ es = []) ∨ ∃ j t, Loc st j t s v es ∧ j < st.m ∧ n0 ≤ t ∧ t < st.n
def isAt (v : AV) (i : Nat) : Prop := ∃ t s off len, v = .lsl i t s off len

theorem Acc.lt {n0 s : Nat} {st : St} {v : AV} {es : List AV} (h : Acc n0 st s v es) {q : Nat} (hq : isAt v q) : q < st.m := by
  obtain ⟨t', s', off, len, e⟩ := hq
  rcases h with ⟨rfl, _⟩ | ⟨j, t, h, h1, _⟩
  · cases e
  · rw [h.1] at e; cases e; exact h1
theorem Acc.nil {n0 s : Nat} {st : St} : Acc n0 st s .nils [] := .inl ⟨rfl, rfl⟩
theorem Acc.arr {n0 s : Nat} {st : St} {v : AV} {es : List AV} (h : Acc n0 st s v es) : Arr st s v es := by
  rcases h with ⟨rfl, rfl⟩ | ⟨j, t, h, _⟩
  · exact .nil
  · exact h.arr
theorem Acc.frame {n0 s : Nat} {st st' : St} {v : AV} {es : List AV} (h : Acc n0 st s v es) (k : ∀ i, i < st.m → st'.H i = st.H i) (hm : st.m ≤ st'.m) (hn : st.n ≤ st'.n) : Acc n0 st' s v es := by
  rcases h with ⟨rfl, rfl⟩ | ⟨j, t, h, h1, h2, h3⟩
  · exact .inl ⟨rfl, rfl⟩
  · exact .inr ⟨j, t, h.frame (k j h1), by omega, h2, by omega⟩
theorem Acc.setN {n0 s n' : Nat} {st : St} {v : AV} {es : List AV} (h : Acc n0 st s v es) (hn : st.n ≤ n') : Acc n0 (st.setN n') s v es := h.frame (fun _ _ => rfl) (Nat.le_refl _) hn
theorem Acc.new {n0 s k : Nat} {st : St} {v : AV} {es xs : List AV} (h : Acc n0 st s v es) : Acc n0 (st.new k xs) s v es := h.frame (fun _ hi => new_H_ne (Nat.ne_of_lt hi)) (Nat.le_succ _) (Nat.le_succ _)

theorem lit0 {s : Nat} {z : AV} {st : St} {K : AV → St → Option β} (h : z.stor = true) (h1 : z.cells.length = s) (h2 : s ≠ 0) : mkLit 0 s z [] st K = K (.lsl st.m st.n s 0 0) (st.new s []) := by
  unfold mkLit; rw [if_pos ⟨h, h1, h2⟩]; rfl
theorem lit1 {s : Nat} {z x : AV} {st : St} {K : AV → St → Option β} (h : z.stor = true) (h1 : z.cells.length = s) (h2 : s ≠ 0) (hx : x.stor = true) (hx1 : x.cells.length = s) : mkLit 1 s z [(0, x)] st K = K (.lsl st.m st.n s 0 1) (st.new s [x]) := by
  unfold mkLit; rw [if_pos ⟨h, h1, h2⟩]
  simp only [mkSlice, List.length_replicate]
  rw [if_pos ⟨hx, hx1, by omega⟩]; rfl
theorem Acc.lit {n0 s : Nat} {st : St} (h : n0 ≤ st.n) : Acc n0 (st.new s []) s (.lsl st.m st.n s 0 0) [] := .inr ⟨st.m, st.n, ⟨rfl, new_H _ _ _⟩, Nat.lt_succ_self _, h, Nat.lt_succ_self _⟩

theorem one_stor {v : AV} (h : v.one = true) : v.stor = true ∧ v.cells.length = 1 := by cases v <;> simp [AV.one] at h <;> exact ⟨rfl, rfl⟩

/-- what is appended is an array that holds ys -/
theorem Acc.app {n0 s : Nat} {st : St} {v y : AV} {es ys : List AV} (h : Acc n0 st s v es) (hy : Arr st s y ys) (hn : n0 ≤ st.n) (hl : es.length + ys.length ≤ 4294967296) :
    ∃ v' st', aApp s v y st = some (v', st') ∧ Acc n0 st' s v' (es ++ ys) ∧ st.m ≤ st'.m ∧ st'.n = st.n + 1 ∧ (∀ i, i < st.m → ¬ isAt v i → st'.H i = st.H i) ∧ (∀ q, isAt v' q → isAt v q ∨ st.m ≤ q) := by
  obtain ⟨e1, e2⟩ := hy.elems
  rcases h with ⟨rfl, rfl⟩ | ⟨j, t, h, h1, h2, h3⟩
  · refine ⟨_, _, nil_app e1 e2 (by simpa using hl), .inr ⟨st.m, st.n, ⟨rfl, new_H _ _ _⟩, Nat.lt_succ_self _, hn, Nat.lt_succ_self _⟩, Nat.le_succ _, rfl, fun i hi _ => new_H_ne (Nat.ne_of_lt hi), fun q hq => ?_⟩
    obtain ⟨_, _, _, _, e⟩ := hq; cases e; exact .inr (Nat.le_refl _)
  · refine ⟨_, _, h.app e1 e2 hl, .inr ⟨j, st.n, app_loc rfl, h1, hn, Nat.lt_succ_self _⟩, Nat.le_refl _, rfl, fun i hi hne => ?_, fun q hq => ?_⟩
    case refine_2 => obtain ⟨_, _, _, _, e⟩ := hq; cases e; exact .inl ⟨t, s, 0, es.length, h.1⟩
    have : i ≠ j := fun e => hne ⟨t, s, 0, es.length, by rw [e]; exact h.1⟩
    exact put_H_ne this

/-- one element more -/
theorem Ok.push {n0 s : Nat} {st : St} {z v x : AV} {es : List AV} {K : AV × St → Option β} {Q : β → Prop} (h : Acc n0 st s v es) (hn : n0 ≤ st.n) (hz : z.stor = true) (hz1 : z.cells.length = s) (hs : s ≠ 0) (hx : x.stor = true) (hx1 : x.cells.length = s)
    (hl : es.length < 4294967296) (k : ∀ v' st', Acc n0 st' s v' (es ++ [x]) → st.m ≤ st'.m → st.n ≤ st'.n → (∀ i, i < st.m → ¬ isAt v i → st'.H i = st.H i) → (∀ q, isAt v' q → isAt v q ∨ st.m ≤ q) → Ok (K (v', st')) Q) :
    Ok (mkLit 1 s z [(0, x)] st fun y s2 => (aApp s v y s2).bind K) Q := by
  rw [lit1 hz hz1 hs hx hx1]
  have hy : Arr (st.new s [x]) s (.lsl st.m st.n s 0 1) [x] := (Loc.new (st := st) (s := s) (es := [x])).arr
  obtain ⟨v', st', e, g1, g2, g3, g4, g5⟩ := (h.new (k := s) (xs := [x])).app hy (Nat.le_trans hn (Nat.le_succ _)) (by simp; omega)
  rw [e]
  refine k v' st' g1 (Nat.le_trans (Nat.le_succ _) g2) (by rw [g3, new_n]; omega) (fun i hi hne => ?_) fun q hq => (g5 q hq).imp id fun h => Nat.le_trans (Nat.le_succ _) h
  rw [g4 i (by rw [new_m]; omega) hne, new_H_ne (Nat.ne_of_lt hi)]

theorem Acc.fin {n0 s d : Nat} {st : St} {v : AV} {es : List AV} (h : Acc n0 st s v es) (hp : ∀ e ∈ es, Plain e) : ∃ T, resTup st v = some T ∧ res st v = some T ∧ IsSl s T es ∧ (s ≠ 0 → depL es = 0 → thBL es = true → New (d + 1) n0 st.n T) ∧ ∀ t ∈ T.tags, n0 ≤ t ∨ ∃ e ∈ es, t ∈ e.tags := by
  rcases h with ⟨rfl, rfl⟩ | ⟨j, t, h, h1, h2, h3⟩
  · exact ⟨.nils, rfl, rfl, .inl ⟨rfl, rfl⟩, fun _ _ _ => New.nils, by simp [AV.tags]⟩
  · refine ⟨.sl t 0 s es, h.resTup hp, h.res hp, .inr ⟨_, _, rfl⟩, fun hs h4 h5 => New.sl (NewL.flat h4 h5) h2 h3 hs, ?_⟩
    intro u hu
    simp only [AV.tags] at hu
    rcases List.mem_cons.1 hu with rfl | hu
    · exact .inl h2
    · exact .inr (tagsL_mem.1 hu)

theorem SlOf.intro {s : Nat} {R : AV → α → Prop} {T : AV} {es : List AV} {l : List α} (h : IsSl s T es) (k : All2 R es l) : SlOf s R T l := ⟨es, h, k⟩

theorem All2.snoc {R : AV → α → Prop} {es : List AV} {l : List α} {e : AV} {x : α} (h : All2 R es l) (k : R e x) : All2 R (es ++ [e]) (l ++ [x]) := h.append (by simp only [All2]; exact ⟨_, _, rfl, k, rfl⟩)

/-- reading an element of a slice of one-cell elements -/
theorem Arr.get1 {st : St} {v : AV} {es : List AV} {R : AV → α → Prop} {l : List α} (h : Arr st 1 v es) (k : All2 R es l) {i : Nat} {x : α} (hx : l[i]? = some x) (ho : ∀ e, R e x → e.one = true) (kd : IntKind) :
    ∃ e p, R e x ∧ aIaddr 1 v (.int kd (i : Int)) = some p ∧ aLoad false 1 st p = some e := by
  obtain ⟨e, he, hr⟩ := k.get i x hx
  have hi := (List.getElem?_eq_some_iff.1 he).1
  obtain ⟨p, q1, q2⟩ := h.at hi kd
  have : es[i] = e := by rw [List.getElem?_eq_getElem hi] at he; exact Option.some.inj he
  exact ⟨e, p, hr, q1, by rw [q2, this, ld_one (ho e hr)]⟩
end
theorem wrap_i {x : Int} (h : -9223372036854775808 ≤ x ∧ x ≤ 9223372036854775807) : IntKind.wrap .i64 x = x := wrap64 h.1 h.2

def RI (v : AV) (i : Int) : Prop := v = .int .i64 i
def IS (v : AV) (l : List Int) : Prop := SlOf 1 RI v l
theorem IS.plain {v : AV} {l : List Int} (h : IS v l) : Plain v := SlOf.plain h fun _ _ hr => by cases hr; rfl
def i64ok (n : Int) : Prop := -9223372036854775808 ≤ n ∧ n ≤ 9223372036854775807
theorem i64_wf {n : Int} (h : (Lit.int .i64 n).wf = true) : i64ok n := by
  unfold i64ok
  simp [Lit.wf, IntKind.min, IntKind.max, IntKind.signed, IntKind.bits] at h
  omega
theorem is_in {v : AV} (h : CT.has (.sl false [.int .i64]) v) : ∃ l, IS v l ∧ l.length ≤ maxLen ∧ ∀ n ∈ l, i64ok n :=
  has_sl h fun _ hx => by
    simp only [CT.has] at hx
    obtain ⟨n, rfl, hw⟩ := hx
    exact ⟨n, rfl, i64_wf hw⟩

/-- whole numbers in a row, as they lie in memory -/
theorem ri_flat {es : List AV} {l : List Int} (h : All2 RI es l) : depL es = 0 ∧ thBL es = true ∧ ∀ e ∈ es, Plain e := by
  have := flatL (vs := es) fun v hv => by obtain ⟨x, _, rfl⟩ := h.mem v hv; exact ⟨by simp [dep], rfl⟩
  exact ⟨this.1, this.2, fun e he => by obtain ⟨x, _, rfl⟩ := h.mem e he; exact plain_int _ _⟩
def AccI (n0 : Nat) (st : St) (v : AV) (l : List Int) : Prop := ∃ es, Acc n0 st 1 v es ∧ All2 RI es l
theorem AccI.lt {n0 : Nat} {st : St} {v : AV} {l : List Int} (h : AccI n0 st v l) {q : Nat} (hq : isAt v q) : q < st.m := by
  obtain ⟨es, h, _⟩ := h; exact h.lt hq
theorem AccI.nil {n0 : Nat} {st : St} : AccI n0 st .nils [] := ⟨[], .nil, rfl⟩
theorem AccI.lit {n0 : Nat} {st : St} (h : n0 ≤ st.n) : AccI n0 (st.new 1 []) (.lsl st.m st.n 1 0 0) [] := ⟨[], .lit h, rfl⟩
theorem AccI.fin {n0 : Nat} {st : St} {v : AV} {l : List Int} (h : AccI n0 st v l) : ∃ T, resTup st v = some T ∧ res st v = some T ∧ IS T l ∧ New 1 n0 st.n T := by
  obtain ⟨es, h, k⟩ := h
  obtain ⟨f1, f2, f3⟩ := ri_flat k
  obtain ⟨T, h1, h2, h3, h4, _⟩ := h.fin (d := 0) f3
  exact ⟨T, h1, h2, ⟨es, h3, k⟩, h4 (by omega) f1 f2⟩
theorem AccI.len {n0 : Nat} {st : St} {v : AV} {l : List Int} (h : AccI n0 st v l) : aLen v = some (.int .i64 l.length) := by
  obtain ⟨es, h, k⟩ := h; rw [h.arr.len, k.length]
theorem AccI.get {n0 : Nat} {st : St} {v : AV} {l : List Int} (h : AccI n0 st v l) {i : Nat} {x : Int} (hx : l[i]? = some x) (kd : IntKind) : ∃ p, aIaddr 1 v (.int kd (i : Int)) = some p ∧ aLoad false 1 st p = some (.int .i64 x) := by
  obtain ⟨es, h, k⟩ := h
  obtain ⟨e, p, rfl, h1, h2⟩ := h.arr.get1 k hx (fun e he => by cases he; rfl) kd
  exact ⟨p, h1, h2⟩
theorem AccI.frame {n0 : Nat} {st st' : St} {v : AV} {l : List Int} (h : AccI n0 st v l) (k : ∀ i, i < st.m → st'.H i = st.H i) (hm : st.m ≤ st'.m) (hn : st.n ≤ st'.n) : AccI n0 st' v l := by
  obtain ⟨es, h, g⟩ := h; exact ⟨es, h.frame k hm hn, g⟩
theorem AccI.frame' {n0 : Nat} {st st' : St} {v : AV} {l : List Int} (h : AccI n0 st v l) (k : ∀ i, i < st.m → isAt v i → st'.H i = st.H i) (hm : st.m ≤ st'.m) (hn : st.n ≤ st'.n) : AccI n0 st' v l := by
  obtain ⟨es, h, g⟩ := h
  refine ⟨es, ?_, g⟩
  rcases h with ⟨rfl, rfl⟩ | ⟨j, t, h, h1, h2, h3⟩
  · exact .inl ⟨rfl, rfl⟩
  · exact .inr ⟨j, t, h.frame (k j h1 ⟨t, 1, 0, es.length, h.1⟩), by omega, h2, by omega⟩
theorem AccI.setN {n0 n' : Nat} {st : St} {v : AV} {l : List Int} (h : AccI n0 st v l) (hn : st.n ≤ n') : AccI n0 (st.setN n') v l := h.frame (fun _ _ => rfl) (Nat.le_refl _) hn
theorem Ok.pushI {β : Type} {n0 : Nat} {st : St} {v : AV} {x : Int} {l : List Int} {K : AV × St → Option β} {Q : β → Prop} (h : AccI n0 st v l) (hn : n0 ≤ st.n) (hl : l.length < 4294967296)
    (k : ∀ v' st', AccI n0 st' v' (l ++ [x]) → st.m ≤ st'.m → st.n ≤ st'.n → (∀ i, i < st.m → ¬ isAt v i → st'.H i = st.H i) → (∀ q, isAt v' q → isAt v q ∨ st.m ≤ q) → Ok (K (v', st')) Q) :
    Ok (mkLit 1 1 (.int .i64 0) [(0, .int .i64 x)] st fun y s2 => (aApp 1 v y s2).bind K) Q := by
  obtain ⟨es, h, g⟩ := h
  exact Ok.push h hn rfl rfl (by omega) rfl rfl (by rw [g.length]; omega) fun v' st' h1 h2 h3 h4 h5 => k v' st' ⟨_, h1, g.snoc rfl⟩ h2 h3 h4 h5
theorem IS.get {st : St} {v : AV} {l : List Int} (h : IS v l) {i : Nat} {x : Int} (hx : l[i]? = some x) (kd : IntKind) : ∃ p, aIaddr 1 v (.int kd (i : Int)) = some p ∧ aLoad false 1 st p = some (.int .i64 x) := by
  obtain ⟨e, rfl, h1⟩ := SlOf.idx h hx
  exact ⟨_, h1 kd, rfl⟩
theorem lit0_i {β : Type} {st : St} {K : AV → St → Option β} : mkLit 0 1 (.int .i64 0) [] st K = K (.lsl st.m st.n 1 0 0) (st.new 1 []) := lit0 (s := 1) rfl rfl (by omega)
theorem lit0_n {β : Type} {st : St} {K : AV → St → Option β} : mkLit 0 1 .nils [] st K = K (.lsl st.m st.n 1 0 0) (st.new 1 []) := lit0 (s := 1) rfl rfl (by omega)
theorem lit0_b {β : Type} {st : St} {K : AV → St → Option β} : mkLit 0 1 (.bool false) [] st K = K (.lsl st.m st.n 1 0 0) (st.new 1 []) := lit0 (s := 1) rfl rfl (by omega)

def RB (v : AV) (b : Bool) : Prop := v = .bool b
def BS (v : AV) (l : List Bool) : Prop := SlOf 1 RB v l
def BSS (v : AV) (l : List (List Bool)) : Prop := SlOf 1 BS v l

theorem BS.plain {v : AV} {l : List Bool} (h : BS v l) : Plain v := SlOf.plain h fun _ _ hr => by cases hr; rfl
theorem BSS.plain {v : AV} {l : List (List Bool)} (h : BSS v l) : Plain v := SlOf.plain h fun _ _ hr => (BS.plain hr).1
theorem bss_in {v : AV} (h : CT.has (.sl false [.sl false [.bool]]) v) : ∃ l, BSS v l ∧ l.length ≤ maxLen ∧ ∀ r ∈ l, r.length ≤ maxLen :=
  has_sl h fun _ hx => by
    obtain ⟨l, h1, h2, _⟩ := has_sl (R := RB) (P := fun _ => True) hx fun y hy => by
      simp only [CT.has] at hy
      obtain ⟨b, rfl⟩ := hy
      exact ⟨b, rfl, trivial⟩
    exact ⟨l, h1, h2⟩

def AccB (n0 : Nat) (st : St) (v : AV) (l : List Bool) : Prop := ∃ es, Acc n0 st 1 v es ∧ All2 RB es l
theorem rb_flat {es : List AV} {l : List Bool} (h : All2 RB es l) : depL es = 0 ∧ thBL es = true ∧ ∀ e ∈ es, Plain e := by
  have := flatL (vs := es) fun v hv => by obtain ⟨x, _, rfl⟩ := h.mem v hv; exact ⟨by simp [dep], rfl⟩
  exact ⟨this.1, this.2, fun e he => by obtain ⟨x, _, rfl⟩ := h.mem e he; exact plain_bool _⟩
theorem Ok.pushB {β : Type} {n0 : Nat} {st : St} {v : AV} {x : Bool} {l : List Bool} {K : AV × St → Option β} {Q : β → Prop} (h : AccB n0 st v l) (hn : n0 ≤ st.n) (hl : l.length < 4294967296)
    (k : ∀ v' st', AccB n0 st' v' (l ++ [x]) → st.m ≤ st'.m → st.n ≤ st'.n → (∀ i, i < st.m → ¬ isAt v i → st'.H i = st.H i) → (∀ q, isAt v' q → isAt v q ∨ st.m ≤ q) → Ok (K (v', st')) Q) :
    Ok (mkLit 1 1 (.bool false) [(0, .bool x)] st fun y s2 => (aApp 1 v y s2).bind K) Q := by
  obtain ⟨es, h, g⟩ := h
  exact Ok.push h hn rfl rfl (by omega) rfl rfl (by rw [g.length]; omega) fun v' st' h1 h2 h3 h4 h5 => k v' st' ⟨_, h1, g.snoc rfl⟩ h2 h3 h4 h5
/-- a row in memory, and the tree that it reads as -/
def Leaf (st : St) (j : Nat) (e T : AV) : Prop := (e = .nils ∧ T = .nils) ∨ ∃ j' t es, e = .lsl j' t 1 0 es.length ∧ st.H j' = some ⟨t, 1, es⟩ ∧ j' < st.m ∧ j' ≠ j ∧ T = .sl t 0 1 es ∧ ∀ x ∈ es, Plain x
theorem Leaf.frame {st st' : St} {j : Nat} {e T : AV} (h : Leaf st j e T) (k : ∀ i, i < st.m → i ≠ j → isAt e i → st'.H i = st.H i) (hm : st.m ≤ st'.m) : Leaf st' j e T := by
  rcases h with h | ⟨j', t, es, rfl, h1, h2, h3, h4, h5⟩
  · exact .inl h
  · exact .inr ⟨j', t, es, rfl, by rw [k j' h2 h3 ⟨_, _, _, _, rfl⟩]; exact h1, by omega, h3, h4, h5⟩
theorem Leaf.one {st : St} {j : Nat} {e T : AV} (h : Leaf st j e T) : e.one = true := by
  rcases h with ⟨rfl, _⟩ | ⟨j', t, es, rfl, _⟩ <;> rfl
theorem Leaf.resD {st : St} {j d : Nat} {e T : AV} (h : Leaf st j e T) : Go.Proofs.YtilbmpdeginabaaFw.resD st (d + 2) e = some T := by
  rcases h with ⟨rfl, rfl⟩ | ⟨j', t, es, rfl, h1, h2, h3, rfl, h5⟩
  · rfl
  · show resOne st (Go.Proofs.YtilbmpdeginabaaFw.resD st (d + 1)) (.lsl j' t 1 0 es.length) = _
    simp only [resOne, get_H h1, Option.bind_some, Nat.zero_add, Nat.le_refl, if_true, List.drop_zero, List.take_length]
    rw [mapO_same fun x hx => resD_plain (h5 x hx)]; rfl
theorem AccB.leaf {n1 : Nat} {st : St} {w : AV} {l : List Bool} (h : AccB n1 st w l) {j : Nat} (hj : ¬ isAt w j) : ∃ T, Leaf st j w T ∧ New 1 n1 st.n T ∧ BS T l := by
  obtain ⟨es, h, g⟩ := h
  obtain ⟨f1, f2, f3⟩ := rb_flat g
  rcases h with ⟨rfl, rfl⟩ | ⟨j', t, h, h1, h2, h3⟩
  · exact ⟨.nils, .inl ⟨rfl, rfl⟩, New.nils, ⟨[], .inl ⟨rfl, rfl⟩, g⟩⟩
  · refine ⟨.sl t 0 1 es, .inr ⟨j', t, es, h.1, h.2, h1, fun e => hj ⟨t, 1, 0, es.length, by rw [h.1, e]⟩, rfl, f3⟩, New.sl (NewL.flat f1 f2) h2 h3 (by omega), ⟨es, .inr ⟨_, _, rfl⟩, g⟩⟩
def AccBSS (n0 : Nat) (st : St) (v : AV) (rows : List (List Bool)) : Prop :=
  ∃ j t es Ts, Loc st j t 1 v es ∧ j < st.m ∧ n0 ≤ t ∧ t < st.n ∧ NewL 1 n0 t Ts ∧ All2 (Leaf st j) es Ts ∧ All2 BS Ts rows
theorem AccBSS.lit {n0 : Nat} {st : St} (h : n0 ≤ st.n) : AccBSS n0 (st.new 1 []) (.lsl st.m st.n 1 0 0) [] :=
  ⟨st.m, st.n, [], [], ⟨rfl, new_H _ _ _⟩, Nat.lt_succ_self _, h, Nat.lt_succ_self _, NewL.nil, rfl, rfl⟩
theorem All2.mono {α β : Type} {R R' : α → β → Prop} (h : ∀ a b, R a b → R' a b) : ∀ {l : List α} {r : List β}, All2 R l r → All2 R' l r
  | [], r, k => k
  | a :: l, r, k => by
    simp only [All2] at k ⊢
    obtain ⟨b, r, rfl, k1, k2⟩ := k
    exact ⟨b, r, rfl, h _ _ k1, All2.mono h k2⟩
theorem AccBSS.frame {n0 : Nat} {st st' : St} {v : AV} {rows : List (List Bool)} (h : AccBSS n0 st v rows) (k : ∀ i, i < st.m → st'.H i = st.H i) (hm : st.m ≤ st'.m) (hn : st.n ≤ st'.n) : AccBSS n0 st' v rows := by
  obtain ⟨j, t, es, Ts, h1, h2, h3, h4, h5, h6, h7⟩ := h
  exact ⟨j, t, es, Ts, h1.frame (k j h2), by omega, h3, by omega, h5, h6.mono fun a b hl => hl.frame (fun i hi _ _ => k i hi) hm, h7⟩
theorem AccBSS.lt {n0 : Nat} {st : St} {v : AV} {rows : List (List Bool)} (h : AccBSS n0 st v rows) {q : Nat} (hq : isAt v q) : q < st.m := by
  obtain ⟨j, t, es, Ts, h1, h2, _⟩ := h
  obtain ⟨_, _, _, _, e⟩ := hq
  rw [h1.1] at e; cases e; exact h2
/-- one row more: the row's array was made later than all else -/
theorem Ok.pushRow {β : Type} {n0 n1 : Nat} {st : St} {v w : AV} {row : List Bool} {rows : List (List Bool)} {K : AV × St → Option β} {Q : β → Prop} (h : AccBSS n0 st v rows) (hw : AccB n1 st w row) (hn : n0 ≤ n1) (ht : ∀ q t s off len, v = .lsl q t s off len → t < n1) (hd : ∀ q, isAt v q → ¬ isAt w q) (hn1 : n1 ≤ st.n) (hl : rows.length < 4294967296)
    (k : ∀ v' st', AccBSS n0 st' v' (rows ++ [row]) → st.m ≤ st'.m → st.n ≤ st'.n → (∀ q t s off len, v' = .lsl q t s off len → t < st'.n) → Ok (K (v', st')) Q) :
    Ok (mkLit 1 1 .nils [(0, w)] st fun y s2 => (aApp 1 v y s2).bind K) Q := by
  obtain ⟨j, t, es, Ts, h1, h2, h3, h4, h5, h6, h7⟩ := h
  have hj : isAt v j := ⟨_, _, _, _, h1.1⟩
  obtain ⟨T, l1, l2, l3⟩ := hw.leaf (hd j hj)
  have ho := one_stor l1.one
  rw [lit1 (s := 1) (z := .nils) rfl rfl (by omega) ho.1 ho.2]
  have hy : Arr (st.new 1 [w]) 1 (.lsl st.m st.n 1 0 1) [w] := (Loc.new (st := st) (s := 1) (es := [w])).arr
  obtain ⟨e1, e2⟩ := hy.elems
  have hlen : es.length = rows.length := by rw [h6.length, h7.length]
  have hL : Loc (st.new 1 [w]) j t 1 v es := h1.frame (new_H_ne (Nat.ne_of_lt h2))
  rw [hL.app e1 e2 (by simp; omega)]
  have htt := ht j t 1 0 es.length h1.1
  refine k _ _ ⟨j, st.n + 1, es ++ [w], Ts ++ [T], app_loc rfl, by simp only [put_m, new_m]; omega, by omega, by simp only [new_n]; omega, ?_, ?_, h7.snoc l3⟩ (Nat.le_succ _) (by simp only [new_n]; omega) ?_
  · exact (NewL.snoc (h5.wide (Nat.le_refl _) (Nat.le_refl _) (Nat.le_of_lt htt)) l2 hn hn1).wide (Nat.le_refl _) (Nat.le_refl _) (Nat.le_succ _)
  · refine All2.snoc ?_ ?_
    · exact h6.mono fun a b hl => hl.frame (fun i hi hne _ => by
        show (St.put (st.new 1 [w]) j _).H i = _
        rw [put_H_ne hne, new_H_ne (Nat.ne_of_lt hi)]) (by simp only [put_m, new_m]; omega)
    · exact l1.frame (fun i hi hne _ => by
        show (St.put (st.new 1 [w]) j _).H i = _
        rw [put_H_ne hne, new_H_ne (Nat.ne_of_lt hi)]) (by simp only [put_m, new_m]; omega)
  · intro q t' s off len e; cases e; simp only [new_n]; omega
theorem AccBSS.fin {n0 : Nat} {st : St} {v : AV} {rows : List (List Bool)} (h : AccBSS n0 st v rows) : ∃ T, resTup st v = some T ∧ BSS T rows ∧ New 2 n0 st.n T := by
  obtain ⟨j, t, es, Ts, ⟨e1, h1⟩, h2, h3, h4, h5, h6, h7⟩ := h
  refine ⟨.sl t 0 1 Ts, ?_, ⟨Ts, .inr ⟨_, _, rfl⟩, h7⟩, New.sl' h5 h3 h4 (by omega)⟩
  have hm : ∀ (es Ts : List AV), All2 (Leaf st j) es Ts → mapO (resD st 5) es = some Ts := by
    intro es
    induction es with
    | nil => intro Ts h; simp only [All2] at h; subst h; rfl
    | cons e es ih =>
      intro Ts h
      simp only [All2] at h
      obtain ⟨T, Ts, rfl, h, hs⟩ := h
      simp only [mapO, h.resD (d := 3), Option.bind_some, ih _ hs]
  rw [e1]
  show resOne st (resD st 5) (.lsl j t 1 0 es.length) = _
  simp only [resOne, get_H h1, Option.bind_some, Nat.zero_add, Nat.le_refl, if_true, List.drop_zero, List.take_length, hm es Ts h6]
theorem AccBSS.tag {n0 : Nat} {st : St} {v : AV} {rows : List (List Bool)} (h : AccBSS n0 st v rows) : ∀ q t s off len, v = .lsl q t s off len → t < st.n := by
  obtain ⟨j, t, es, Ts, h1, h2, h3, h4, _⟩ := h
  intro q t' s off len e
  rw [h1.1] at e; cases e; exact h4
def matR (c : Nat → Bool) (k : Nat) : List Bool := (List.range k).map c
theorem matR_succ (c : Nat → Bool) (k : Nat) : matR c (k + 1) = matR c k ++ [c k] := by simp [matR, List.range_succ]
theorem matR_length (c : Nat → Bool) (k : Nat) : (matR c k).length = k := by simp [matR]
def matP (n : Nat) (c : Nat → Nat → Bool) (k : Nat) : List (List Bool) := (List.range k).map fun i => matR (c i) n
theorem matP_succ (n : Nat) (c : Nat → Nat → Bool) (k : Nat) : matP n c (k + 1) = matP n c k ++ [matR (c k) n] := by simp [matP, List.range_succ]
theorem matP_length (n : Nat) (c : Nat → Nat → Bool) (k : Nat) : (matP n c k).length = k := by simp [matP]
/-- the state inside a row -/
structure RowI (n0 : Nat) (st : St) (v : AV) (w : AV) (st1 : St) (row : List Bool) : Prop where
  acc : AccB st.n st1 w row
  n : st.n ≤ st1.n
  m : st.m ≤ st1.m
  at_ : ∀ q, isAt w q → st.m ≤ q
  same : ∀ i, i < st.m → st1.H i = st.H i
theorem RowI.start {n0 : Nat} {st : St} {v : AV} : RowI n0 st v (.lsl st.m st.n 1 0 0) (st.new 1 []) [] :=
  ⟨⟨[], .lit (Nat.le_refl _), rfl⟩, Nat.le_succ _, Nat.le_succ _, fun q hq => by obtain ⟨_, _, _, _, e⟩ := hq; cases e; exact Nat.le_refl _, fun i hi => new_H_ne (Nat.ne_of_lt hi)⟩
theorem RowI.setN {n0 n' : Nat} {st st1 : St} {v w : AV} {row : List Bool} (h : RowI n0 st v w st1 row) (hn : st1.n ≤ n') : RowI n0 st v w (st1.setN n') row := by
  obtain ⟨es, a, b⟩ := h.acc
  exact ⟨⟨es, a.setN hn, b⟩, Nat.le_trans h.n hn, h.m, h.at_, h.same⟩
theorem RowI.push {β : Type} {n0 : Nat} {st st1 : St} {v w : AV} {row : List Bool} {x : Bool} {K : AV × St → Option β} {Q : β → Prop} (h : RowI n0 st v w st1 row) (hl : row.length < 4294967296) (k : ∀ w' st', RowI n0 st v w' st' (row ++ [x]) → Ok (K (w', st')) Q) :
    Ok (mkLit 1 1 (.bool false) [(0, .bool x)] st1 fun y s2 => (aApp 1 w y s2).bind K) Q := by
  refine Ok.pushB h.acc h.n hl fun w' st' h1 h2 h3 h4 h5 => k w' st' ⟨h1, Nat.le_trans h.n h3, Nat.le_trans h.m h2, fun q hq => ?_, fun i hi => ?_⟩
  · rcases h5 q hq with g | g
    · exact h.at_ q g
    · exact Nat.le_trans h.m g
  · rw [h4 i (Nat.lt_of_lt_of_le hi h.m) fun hq => by have := h.at_ i hq; omega]; exact h.same i hi
theorem RowI.close {β : Type} {n0 : Nat} {st st1 : St} {v w : AV} {row : List Bool} {rows : List (List Bool)} {K : AV × St → Option β} {Q : β → Prop} (h : RowI n0 st v w st1 row) (hA : AccBSS n0 st v rows) (hn : n0 ≤ st.n) (hl : rows.length < 4294967296)
    (k : ∀ v' st', AccBSS n0 st' v' (rows ++ [row]) → st.n ≤ st'.n → Ok (K (v', st')) Q) : Ok (mkLit 1 1 .nils [(0, w)] st1 fun y s2 => (aApp 1 v y s2).bind K) Q :=
  Ok.pushRow (hA.frame h.same h.m h.n) h.acc hn hA.tag (fun q hq hw => by have := h.at_ q hw; have := hA.lt hq; omega) h.n hl fun v' st' h1 _ h3 _ => k v' st' h1 (Nat.le_trans h.n h3)

def at2 (l : List (List Bool)) (i j : Nat) : Bool := ((l[i]?).bind (·[j]?)).getD false
def lenOk (l : List (List Bool)) (i : Nat) : Bool := decide ((l[i]?).map (·.length) = some l.length)
def cellOk (l : List (List Bool)) (i j : Nat) : Bool := !(at2 l i j && decide (i = j)) && decide (at2 l i j = at2 l j i)
def rowOk (l : List (List Bool)) (i : Nat) : Bool := allF (cellOk l i) 0 l.length
def graphM (l : List (List Bool)) : Bool := decide (l.length ≤ 12) && allF (lenOk l) 0 l.length && allF (rowOk l) 0 l.length

def vt (l : List Int) (i : Nat) : Int := (l[i]?).getD 0
def inR (n : Nat) (v : Int) : Bool := decide (0 ≤ v ∧ v ≤ (n : Int) - 1)
def adjI (g : List (List Bool)) (u v : Int) : Bool := at2 g u.toNat v.toNat
def cliqueAt (g : List (List Bool)) (l : List Int) (i : Nat) : Bool := inR g.length (vt l i) && allF (fun j => decide (vt l j < vt l i) && adjI g (vt l i) (vt l j)) 0 i
def cliqueM (g : List (List Bool)) (l : List Int) : Bool := graphM g && allF (cliqueAt g l) 0 l.length

theorem graphM_rows {g : List (List Bool)} (h : graphM g = true) : g.length ≤ 12 ∧ ∀ i, i < g.length → ∃ r, g[i]? = some r ∧ r.length = g.length := by
  unfold graphM at h
  simp only [Bool.and_eq_true, decide_eq_true_iff] at h
  refine ⟨h.1.1, fun i hi => ?_⟩
  have := allF_iff.1 h.1.2 i (Nat.zero_le i) (by omega)
  simp only [lenOk, decide_eq_true_iff, List.getElem?_eq_getElem hi, Option.map_some, Option.some.injEq] at this
  exact ⟨g[i], List.getElem?_eq_getElem hi, this⟩

/-- an element of the graph -/
theorem graph_get {x0 : AV} {g : List (List Bool)} (h0 : BSS x0 g) (h : graphM g = true) {u v : Int} (hu : 0 ≤ u ∧ u < g.length) (hv : 0 ≤ v ∧ v < g.length) (st : St) :
    ∃ e, aIaddr 1 x0 (.int .i64 u) = some (.eptr e.cells) ∧ aLoad false 1 st (.eptr e.cells) = some e ∧ aIaddr 1 e (.int .i64 v) = some (.eptr (AV.bool (adjI g u v)).cells) := by
  obtain ⟨_, hr⟩ := graphM_rows h
  obtain ⟨r, h1, h2⟩ := hr u.toNat (by omega)
  obtain ⟨e, p1, g1⟩ := SlOf.idx h0 h1
  obtain ⟨e2, rfl, g2⟩ := SlOf.idx p1 (List.getElem?_eq_getElem (by omega : v.toNat < r.length))
  have a1 : ((u.toNat : Nat) : Int) = u := by omega
  have a2 : ((v.toNat : Nat) : Int) = v := by omega
  have q1 := g1 .i64
  have q2 := g2 .i64
  rw [a1] at q1; rw [a2] at q2
  refine ⟨e, q1, load_one (SlOf.one p1), ?_⟩
  rw [q2]
  simp [adjI, at2, h1, List.getElem?_eq_getElem (by omega : v.toNat < r.length)]
theorem adj_symm {g : List (List Bool)} (hg : graphM g = true) {u v : Int} (hu : inR g.length u = true) (hv : inR g.length v = true) : adjI g u v = adjI g v u := by
  simp only [inR, decide_eq_true_iff] at hu hv
  unfold graphM at hg
  simp only [Bool.and_eq_true] at hg
  have h1 := allF_iff.1 hg.2 u.toNat (Nat.zero_le _) (by omega)
  have h2 := allF_iff.1 h1 v.toNat (Nat.zero_le _) (by omega)
  simp only [cellOk, Bool.and_eq_true, decide_eq_true_iff] at h2
  exact h2.2
def adjAll (g : List (List Bool)) (l : List Int) : Bool := allF (fun i => allF (fun j => adjI g (vt l j) (vt l i)) 0 i) 0 l.length

theorem flag_loop {ρ : Type} (Lp : Nat → Bool → Option ρ) (p : Nat → Bool) (n : Nat) (e : Bool → ρ) (he : ∀ b, Lp n b = some (e b)) (hs : ∀ i b, i < n → Lp i b = Lp (i + 1) (b && p i)) :
    ∀ k i b, i + k = n → Lp i b = some (e (b && allF p i k))
  | 0, i, b, h => by
    have : i = n := by omega
    subst this; rw [he]; simp [allF]
  | k + 1, i, b, h => by rw [hs i b (by omega), flag_loop Lp p n e he hs k (i + 1) _ (by omega)]; simp [allF, Bool.and_assoc]
theorem allF_congr {p q : Nat → Bool} : ∀ {k i : Nat}, (∀ j, i ≤ j → j < i + k → p j = q j) → allF p i k = allF q i k
  | 0, i, h => rfl
  | k + 1, i, h => by simp only [allF, h i (Nat.le_refl _) (by omega), allF_congr (k := k) (i := i + 1) fun j h1 h2 => h j (by omega) (by omega)]
/-- the vertices below m that are adjacent to all of l -/
def extP (g : List (List Bool)) (l : List Int) (m : Nat) : List Int := ((List.range m).filter fun (v : Nat) => allF (fun j => adjI g (v : Int) (vt l j)) 0 l.length).map Int.ofNat
def extM (g : List (List Bool)) (l : List Int) : List Int := if cliqueM g l = true then extP g l g.length else []
theorem extP_succ (g : List (List Bool)) (l : List Int) (m : Nat) : extP g l (m + 1) = extP g l m ++ if allF (fun j => adjI g m (vt l j)) 0 l.length = true then [(m : Int)] else [] := by
  unfold extP
  rw [List.range_succ, List.filter_append, List.map_append]
  congr 1
  by_cases h : allF (fun j => adjI g m (vt l j)) 0 l.length = true <;> simp [h]
theorem extP_length (g : List (List Bool)) (l : List Int) (m : Nat) : (extP g l m).length ≤ m := by
  unfold extP; rw [List.length_map]; exact Nat.le_trans (List.length_filter_le _ _) (by simp)
theorem cliqueM_in {g : List (List Bool)} {l : List Int} (h : cliqueM g l = true) : graphM g = true ∧ ∀ i, i < l.length → 0 ≤ vt l i ∧ vt l i ≤ (g.length : Int) - 1 := by
  simp only [cliqueM, Bool.and_eq_true] at h
  refine ⟨h.1, fun i hi => ?_⟩
  have := allF_iff.1 h.2 i (Nat.zero_le _) (by omega)
  simp only [cliqueAt, inR, Bool.and_eq_true, decide_eq_true_iff] at this
  exact this.1
theorem Ok.eq {f : Nat} {xs : List AV} {n : Nat} {r : AV} (h : L.call f xs n = some (r, n)) : Ok (L.call f xs n) fun p => n ≤ p.2 ∧ p.1 = r := ⟨_, h, Nat.le_refl _, rfl⟩
theorem clique_len {g : List (List Bool)} {l : List Int} (h : cliqueM g l = true) : l.length ≤ 12 := by
  have hr := cliqueM_in h
  obtain ⟨h12, _⟩ := graphM_rows hr.1
  simp only [cliqueM, Bool.and_eq_true] at h
  have key : ∀ i, i < l.length → (i : Int) ≤ vt l i := by
    intro i
    induction i with
    | zero => intro hi; have := (hr.2 0 hi).1; omega
    | succ i ih =>
      intro hi
      have h1 := ih (by omega)
      have h2 := allF_iff.1 h.2 (i + 1) (Nat.zero_le _) (by omega)
      simp only [cliqueAt, Bool.and_eq_true] at h2
      have h3 := allF_iff.1 h2.2 i (Nat.zero_le _) (by omega)
      simp only [Bool.and_eq_true, decide_eq_true_iff] at h3
      omega
  by_cases h0 : l.length ≤ 12
  · exact h0
  · have h1 := key 12 (by omega)
    have h2 := (hr.2 12 (by omega)).2
    omega

def cplC (g : List (List Bool)) (i j : Nat) : Bool := decide (¬ i = j) && !at2 g i j
def complM (g : List (List Bool)) : List (List Bool) := if graphM g = true then matP g.length (cplC g) g.length else []

theorem allF_snoc {p : Nat → Bool} : ∀ (k i : Nat), allF p i (k + 1) = (allF p i k && p (i + k))
  | 0, i => by simp [allF]
  | k + 1, i => by
    rw [show allF p i (k + 1 + 1) = (p i && allF p (i + 1) (k + 1)) from rfl, allF_snoc k (i + 1)]
    simp only [allF, Bool.and_assoc, show i + 1 + k = i + (k + 1) by omega]
def adjTo (g : List (List Bool)) (l : List Int) (v : Nat) : Bool := allF (fun j => adjI g (v : Int) (vt l j)) 0 l.length
theorem vt_append_left {l r : List Int} {j : Nat} (h : j < l.length) : vt (l ++ r) j = vt l j := by simp [vt, List.getElem?_append_left h]
theorem vt_append_last {l : List Int} {x : Int} : vt (l ++ [x]) l.length = x := by simp [vt]
/-- vertices below k, in their order -/
def inOrd (k : Nat) (l : List Int) : Prop := ∀ j, j < l.length → 0 ≤ vt l j ∧ vt l j < k ∧ ∀ i, i < j → vt l i < vt l j
theorem inOrd_nil {k : Nat} : inOrd k [] := fun j hj => by simp at hj
theorem inOrd_mono {k k' : Nat} {l : List Int} (h : inOrd k l) (hk : k ≤ k') : inOrd k' l := fun j hj => by
  have := h j hj; exact ⟨this.1, by omega, this.2.2⟩
theorem inOrd_snoc {k : Nat} {l : List Int} (h : inOrd k l) : inOrd (k + 1) (l ++ [(k : Int)]) := by
  intro j hj
  simp only [List.length_append, List.length_singleton] at hj
  by_cases e : j < l.length
  · have := h j e
    rw [vt_append_left e]
    refine ⟨this.1, by omega, fun i hi => ?_⟩
    rw [vt_append_left (by omega)]; exact this.2.2 i hi
  · have : j = l.length := by omega
    subst this
    rw [vt_append_last]
    refine ⟨by omega, by omega, fun i hi => ?_⟩
    rw [vt_append_left hi]; have := (h i hi).2.1; omega
theorem inOrd_len {k : Nat} {l : List Int} (h : inOrd k l) : l.length ≤ k := by
  have key : ∀ i, i < l.length → (i : Int) ≤ vt l i := by
    intro i
    induction i with
    | zero => intro hi; have := (h 0 hi).1; omega
    | succ i ih => intro hi; have := ih (by omega); have := (h (i + 1) hi).2.2 i (by omega); omega
  by_cases e : l.length = 0
  · omega
  · have := key (l.length - 1) (by omega); have := (h (l.length - 1) (by omega)).2.1; omega
/-- a clique in order -/
def cliq (g : List (List Bool)) (l : List Int) : Prop := inOrd g.length l ∧ adjAll g l = true
theorem adjAll_snoc (g : List (List Bool)) (hg : graphM g = true) (l : List Int) (k : Nat) (hk : k < g.length) (hl : inOrd g.length l) : adjAll g (l ++ [(k : Int)]) = (adjAll g l && adjTo g l k) := by
  unfold adjAll
  rw [List.length_append, List.length_singleton, allF_snoc]
  congr 1
  · refine allF_congr fun i _ hi => allF_congr fun j _ hj => ?_
    rw [vt_append_left (by omega), vt_append_left (by omega)]
  · rw [Nat.zero_add]
    unfold adjTo
    refine allF_congr fun j _ hj => ?_
    have hj' : j < l.length := by omega
    rw [vt_append_left hj', vt_append_last]
    have := hl j hj'
    exact adj_symm hg (by simp only [inR, decide_eq_true_iff]; omega) (by simp only [inR, decide_eq_true_iff]; omega)
def upd (best x : List Int) : List Int := if best.length < x.length then x else best
def stepB (g : List (List Bool)) (best x : List Int) : List Int := if best.length < x.length ∧ adjAll g x = true then x else best
/-- all sets, in the program's order: by the number of vertices left -/
def foldF (g : List (List Bool)) : Nat → List Int → List Int → List Int
  | 0, l, best => stepB g best l
  | m + 1, l, best => foldF g m l (foldF g m (l ++ [((g.length - (m + 1) : Nat) : Int)]) best)
/-- the first of the largest cliques that extend l by the last m vertices -/
def bestM (g : List (List Bool)) : Nat → List Int → List Int
  | 0, l => l
  | m + 1, l =>
    if adjTo g l (g.length - (m + 1)) = true then
      (if (bestM g m (l ++ [((g.length - (m + 1) : Nat) : Int)])).length < (bestM g m l).length then bestM g m l else bestM g m (l ++ [((g.length - (m + 1) : Nat) : Int)]))
    else bestM g m l
theorem bestM_ext (g : List (List Bool)) : ∀ (m : Nat) (l : List Int), ∃ r, bestM g m l = l ++ r ∧ r.length ≤ m
  | 0, l => ⟨[], by simp [bestM], Nat.le_refl _⟩
  | m + 1, l => by
    obtain ⟨r1, h1, k1⟩ := bestM_ext g m l
    obtain ⟨r2, h2, k2⟩ := bestM_ext g m (l ++ [((g.length - (m + 1) : Nat) : Int)])
    unfold bestM
    split
    · split
      · exact ⟨r1, h1, by omega⟩
      · exact ⟨_ :: r2, by rw [h2, List.append_assoc]; rfl, by simp; omega⟩
    · exact ⟨r1, h1, by omega⟩
theorem upd_upd (best a b : List Int) : upd (upd best a) b = upd best (if a.length < b.length then b else a) := by
  unfold upd; repeat' split
  all_goals first | rfl | (exfalso; omega)
theorem foldF_bad (g : List (List Bool)) (hg : graphM g = true) : ∀ (m : Nat) (l best : List Int), m ≤ g.length → inOrd (g.length - m) l → adjAll g l = false → foldF g m l best = best
  | 0, l, best, _, _, h => by simp [foldF, stepB, h]
  | m + 1, l, best, hm, ho, h => by
    have ho' := inOrd_snoc ho
    rw [show g.length - (m + 1) + 1 = g.length - m by omega] at ho'
    simp only [foldF]
    rw [foldF_bad g hg m (l ++ [((g.length - (m + 1) : Nat) : Int)]) best (by omega) ho' (by rw [adjAll_snoc g hg l _ (by omega) (inOrd_mono ho (by omega)), h, Bool.false_and])]
    exact foldF_bad g hg m l best (by omega) (inOrd_mono ho (by omega)) h
theorem foldF_best (g : List (List Bool)) (hg : graphM g = true) : ∀ (m : Nat) (l best : List Int), m ≤ g.length → inOrd (g.length - m) l → adjAll g l = true → foldF g m l best = upd best (bestM g m l)
  | 0, l, best, _, _, h => by by_cases hb : best.length < l.length <;> simp [foldF, stepB, h, upd, bestM, hb]
  | m + 1, l, best, hm, ho, h => by
    have ho' := inOrd_snoc ho
    rw [show g.length - (m + 1) + 1 = g.length - m by omega] at ho'
    have hs := adjAll_snoc g hg l (g.length - (m + 1)) (by omega) (inOrd_mono ho (by omega))
    rw [h, Bool.true_and] at hs
    simp only [foldF, bestM]
    cases ha : adjTo g l (g.length - (m + 1)) with
    | true =>
      rw [ha] at hs
      rw [foldF_best g hg m _ best (by omega) ho' hs, foldF_best g hg m l _ (by omega) (inOrd_mono ho (by omega)) h, upd_upd]
      simp
    | false =>
      rw [ha] at hs
      rw [foldF_bad g hg m _ best (by omega) ho' hs, foldF_best g hg m l _ (by omega) (inOrd_mono ho (by omega)) h]
      simp
def maxM (g : List (List Bool)) : List Int := if graphM g = true then upd [] (bestM g g.length []) else []
/-- the search of the reference: from vertex g.length - m on -/
def growL (g : List (List Bool)) : Nat → List Int → List Int → List Int
  | 0, _, best => best
  | m + 1, l, best =>
    if best.length < l.length + (m + 1) then
      (if adjTo g l (g.length - (m + 1)) = true then growL g m l (growL g m (l ++ [((g.length - (m + 1) : Nat) : Int)]) (upd best (l ++ [((g.length - (m + 1) : Nat) : Int)]))) else growL g m l best)
    else best
theorem growL_best (g : List (List Bool)) : ∀ (m : Nat) (l best : List Int), l.length ≤ best.length → growL g m l best = upd best (bestM g m l)
  | 0, l, best, h => by
    unfold growL upd bestM; rw [if_neg (by omega)]
  | m + 1, l, best, h => by
    obtain ⟨r1, e1, k1⟩ := bestM_ext g m l
    obtain ⟨r2, e2, k2⟩ := bestM_ext g m (l ++ [((g.length - (m + 1) : Nat) : Int)])
    obtain ⟨r3, e3, k3⟩ := bestM_ext g (m + 1) l
    unfold growL
    by_cases hp : best.length < l.length + (m + 1)
    · rw [if_pos hp]
      cases ha : adjTo g l (g.length - (m + 1)) with
      | true =>
        rw [if_pos rfl, growL_best g m (l ++ [((g.length - (m + 1) : Nat) : Int)]) _ (by unfold upd; split <;> omega)]
        have hu : upd (upd best (l ++ [((g.length - (m + 1) : Nat) : Int)])) (bestM g m (l ++ [((g.length - (m + 1) : Nat) : Int)])) = upd best (bestM g m (l ++ [((g.length - (m + 1) : Nat) : Int)])) := by
          rw [upd_upd]
          split
          · rfl
          · rename_i hlt
            have : r2 = [] := by
              rw [e2] at hlt; simp at hlt; exact hlt
            rw [e2, this, List.append_nil]
        rw [hu, growL_best g m l _ (by unfold upd; split <;> omega), upd_upd]
        simp only [bestM, ha, if_true]
      | false =>
        rw [if_neg Bool.false_ne_true, growL_best g m l best h]
        simp only [bestM, ha, Bool.false_eq_true, if_false]
    · rw [if_neg hp, e3]
      unfold upd
      rw [if_neg (by simp; omega)]

theorem pigeon : ∀ (n : Nat) (t : List Int), (∀ k : Nat, k < n → (k : Int) ∈ t) → n ≤ t.length
  | 0, _, _ => Nat.zero_le _
  | n + 1, t, h => by
    have hm := h n (Nat.lt_succ_self n)
    have := pigeon n (t.erase n) fun k hk => (List.mem_erase_of_ne (by omega)).2 (h k (by omega))
    have := List.length_erase_of_mem hm
    have := List.length_pos_of_mem hm
    omega
def mexG (t : List Int) : Nat → Nat → Nat
  | 0, k => k
  | f + 1, k => if (k : Int) ∈ t then mexG t f (k + 1) else k
def mex (t : List Int) : Nat := mexG t (t.length + 1) 0
theorem mexG_spec (t : List Int) : ∀ (f k : Nat), (∀ j : Nat, j < k → (j : Int) ∈ t) → t.length < k + f → ((mexG t f k : Nat) : Int) ∉ t ∧ ∀ j : Nat, j < mexG t f k → (j : Int) ∈ t
  | 0, k, h, hl => by have := pigeon k t h; omega
  | f + 1, k, h, hl => by
    simp only [mexG]
    by_cases hk : (k : Int) ∈ t
    · rw [if_pos hk]
      exact mexG_spec t f (k + 1) (fun j hj => by
        by_cases e : j = k
        · subst e; exact hk
        · exact h j (by omega)) (by omega)
    · rw [if_neg hk]; exact ⟨hk, h⟩
theorem mex_not (t : List Int) : ((mex t : Nat) : Int) ∉ t := (mexG_spec t _ _ (by omega) (by omega)).1
theorem mex_lt (t : List Int) : ∀ j : Nat, j < mex t → (j : Int) ∈ t := (mexG_spec t _ _ (by omega) (by omega)).2
theorem mex_le (t : List Int) : mex t ≤ t.length := pigeon _ t (mex_lt t)
theorem mex_unique {t : List Int} {k : Nat} (h : (k : Int) ∉ t) (h' : ∀ j : Nat, j < k → (j : Int) ∈ t) : k = mex t := by
  rcases Nat.lt_trichotomy k (mex t) with h1 | h1 | h1
  · exact absurd (mex_lt t k h1) h
  · exact h1
  · exact absurd (h' _ h1) (mex_not t)
/-- the colors of the neighbors of v below m -/
def tkM (g : List (List Bool)) (cols : List Int) (v m : Nat) : List Int := ((List.range m).filter fun (u : Nat) => adjI g (u : Int) (v : Int)).map fun u => vt cols u
def colM (g : List (List Bool)) : Nat → List Int
  | 0 => []
  | v + 1 => colM g v ++ [(mex (tkM g (colM g v) v v) : Int)]
theorem colM_length (g : List (List Bool)) : ∀ v, (colM g v).length = v
  | 0 => rfl
  | v + 1 => by simp [colM, colM_length g v]
theorem tkM_succ (g : List (List Bool)) (cols : List Int) (v m : Nat) : tkM g cols v (m + 1) = tkM g cols v m ++ if adjI g (m : Int) (v : Int) = true then [vt cols m] else [] := by
  unfold tkM
  rw [List.range_succ, List.filter_append, List.map_append]
  congr 1
  by_cases h : adjI g (m : Int) (v : Int) = true <;> simp [h]
theorem tkM_length (g : List (List Bool)) (cols : List Int) (v m : Nat) : (tkM g cols v m).length ≤ m := by
  unfold tkM; rw [List.length_map]; exact Nat.le_trans (List.length_filter_le _ _) (by simp)
theorem mem_tkM {g : List (List Bool)} {cols : List Int} {v m : Nat} {k : Int} : k ∈ tkM g cols v m ↔ ∃ u, u < m ∧ adjI g (u : Int) (v : Int) = true ∧ vt cols u = k := by
  simp [tkM, and_assoc]
theorem colM_bound (g : List (List Bool)) : ∀ v, ∀ c ∈ colM g v, 0 ≤ c ∧ c ≤ v
  | 0, c, h => by simp [colM] at h
  | v + 1, c, h => by
    simp only [colM] at h
    rcases List.mem_append.1 h with h | h
    · have := colM_bound g v c h; omega
    · simp at h; subst h
      have := mex_le (tkM g (colM g v) v v); have := tkM_length g (colM g v) v v; omega
def greedyM (g : List (List Bool)) : List Int := if graphM g = true then colM g g.length else []

def bitOn (k c v : Nat) : Bool := decide (c / 2 ^ (k - 1 - v) % 2 = 1)
def setP (k c m : Nat) : List Int := ((List.range m).filter (bitOn k c)).map Int.ofNat
def setOf (k c : Nat) : List Int := setP k c k
theorem setP_succ (k c m : Nat) : setP k c (m + 1) = setP k c m ++ if bitOn k c m = true then [(m : Int)] else [] := by
  unfold setP
  rw [List.range_succ, List.filter_append, List.map_append]
  congr 1
  by_cases h : bitOn k c m = true <;> simp [h]
theorem setP_length (k c m : Nat) : (setP k c m).length ≤ m := by
  unfold setP; rw [List.length_map]; exact Nat.le_trans (List.length_filter_le _ _) (by simp)
theorem setOf_step (k c b : Nat) (hb : b < 2) : setOf (k + 1) (2 * c + b) = setOf k c ++ if b = 1 then [(k : Int)] else [] := by
  unfold setOf
  rw [setP_succ]
  congr 1
  · unfold setP
    congr 1
    refine List.filter_congr fun v hv => ?_
    have hv' : v < k := by simpa using hv
    have e1 : k + 1 - 1 - v = (k - 1 - v) + 1 := by omega
    have e2 : (2 * c + b) / 2 ^ ((k - 1 - v) + 1) = c / 2 ^ (k - 1 - v) := by
      rw [Nat.pow_succ, Nat.mul_comm (2 ^ (k - 1 - v)) 2, ← Nat.div_div_eq_div_mul, show (2 * c + b) / 2 = c by omega]
    simp only [bitOn, e1, e2]
  · have e1 : k + 1 - 1 - k = 0 := by omega
    simp only [bitOn, e1, Nat.pow_zero, Nat.div_one]
    by_cases h : b = 1
    · subst h; rw [if_pos (decide_eq_true (by omega)), if_pos rfl]
    · rw [if_neg h, if_neg (by rw [decide_eq_false (by omega)]; exact Bool.false_ne_true)]
def vsP (n t : Nat) : List (List Int) := (List.range t).map fun i => setOf n (2 ^ n - 1 - i)
theorem vsP_succ (n t : Nat) : vsP n (t + 1) = vsP n t ++ [setOf n (2 ^ n - 1 - t)] := by simp [vsP, List.range_succ]
theorem vsP_length (n t : Nat) : (vsP n t).length = t := by simp [vsP]
def vsB (n m c : Nat) : List (List Int) := (List.range (2 ^ m)).map fun i => setOf n (c * 2 ^ m + (2 ^ m - 1 - i))
theorem vsB_succ (n m c : Nat) : vsB n (m + 1) c = vsB n m (2 * c + 1) ++ vsB n m (2 * c) := by
  unfold vsB
  have e : 2 ^ (m + 1) = 2 ^ m + 2 ^ m := by rw [Nat.pow_succ]; omega
  rw [e, List.range_add, List.map_append, List.map_map]
  have hc : c * (2 ^ m + 2 ^ m) = 2 * c * 2 ^ m := by rw [Nat.mul_add, Nat.mul_assoc]; omega
  have hp : 0 < 2 ^ m := Nat.pow_pos (by omega)
  have hc1 : (2 * c + 1) * 2 ^ m = 2 * c * 2 ^ m + 2 ^ m := by rw [Nat.add_mul]; omega
  congr 1
  · refine List.map_congr_left fun i hi => ?_
    have hi' : i < 2 ^ m := by simpa using hi
    rw [hc, hc1]; congr 1; omega
  · refine List.map_congr_left fun i hi => ?_
    have hi' : i < 2 ^ m := by simpa using hi
    simp only [Function.comp]
    rw [hc]; congr 1; omega
theorem fold_vs {σ : Type} (f : σ → List Int → σ) (F : Nat → List Int → σ → σ) (n : Nat) (h0 : ∀ l s, F 0 l s = f s l) (hs : ∀ m l s, m + 1 ≤ n → F (m + 1) l s = F m l (F m (l ++ [((n - (m + 1) : Nat) : Int)]) s)) :
    ∀ (m c : Nat) (s : σ), m ≤ n → (vsB n m c).foldl f s = F m (setOf (n - m) c) s
  | 0, c, s, _ => by
    rw [h0]
    simp [vsB]
  | m + 1, c, s, hm => by
    have e : n - m = n - (m + 1) + 1 := by omega
    rw [vsB_succ, List.foldl_append, fold_vs f F n h0 hs m (2 * c + 1) s (by omega), fold_vs f F n h0 hs m (2 * c) _ (by omega), hs m _ _ hm]
    have h1 := setOf_step (n - (m + 1)) c 1 (by omega)
    have h2 : setOf (n - (m + 1) + 1) (2 * c) = setOf (n - (m + 1)) c := by simpa using setOf_step (n - (m + 1)) c 0 (by omega)
    simp only [if_true] at h1
    rw [e, h1, h2]
theorem vsP_all (n : Nat) : vsP n (2 ^ n) = vsB n n 0 := by
  unfold vsP vsB
  refine List.map_congr_left fun i hi => ?_
  simp
theorem setOf_zero (c : Nat) : setOf 0 c = [] := rfl
theorem max_fold (g : List (List Bool)) (hg : graphM g = true) : (vsP g.length (2 ^ g.length)).foldl (stepB g) [] = maxM g := by
  rw [vsP_all, fold_vs (stepB g) (foldF g) g.length (fun l s => rfl) (fun m l s _ => rfl) g.length 0 [] (Nat.le_refl _), Nat.sub_self, setOf_zero,
    foldF_best g hg g.length [] [] (Nat.le_refl _) (fun j hj => by simp at hj) (by simp [adjAll, allF])]
  simp [maxM, hg]
theorem setOf_ord (k c : Nat) : inOrd k (setOf k c) := by
  have : ∀ m, inOrd m (setP k c m) := by
    intro m
    induction m with
    | zero => exact inOrd_nil
    | succ m ih =>
      rw [setP_succ]
      split
      · exact inOrd_snoc ih
      · rw [List.append_nil]; exact inOrd_mono ih (Nat.le_succ _)
  exact this k
theorem and1 (x : Int) (h : 0 ≤ x) (h' : x < 4294967296) : iBin .and .i64 x 1 = some (.int .i64 (x % 2)) := by
  have h1 : (BitVec.ofInt 64 x).toNat = x.toNat := by
    rw [BitVec.toNat_ofInt]
    have : x % ((2 ^ 64 : Nat) : Int) = x := Int.emod_eq_of_lt h (by omega)
    rw [this]
  have h2 : (BitVec.ofInt 64 x &&& BitVec.ofInt 64 1).toNat = x.toNat % 2 := by
    rw [BitVec.toNat_and, h1]
    exact Nat.and_one_is_mod _
  show some (AV.int .i64 (IntKind.wrap .i64 (((BitVec.ofInt 64 x &&& BitVec.ofInt 64 1).toNat : Nat) : Int))) = _
  rw [h2, wrap64 (by omega) (by omega)]
  congr 2; omega
theorem aBin_and1 (x : Int) (h : 0 ≤ x) (h' : x < 4294967296) : aBin .and (.int .i64 x) (.int .i64 1) = some (.int .i64 (x % 2)) := by
  simp only [aBin, isShift, cond_false, if_true]; exact and1 x h h'
theorem aBin_shr (x y : Nat) (hy : y ≤ 64) : aBin .shr (.int .i64 (x : Int)) (.int .i64 (y : Int)) = some (.int .i64 ((x / 2 ^ y : Nat) : Int)) := by
  have h0 : ¬ (y : Int) < 0 := by omega
  simp only [aBin, isShift, cond_true, shBin, if_neg h0, Int.toNat_natCast, IntKind.bits, Nat.min_eq_left hy]
  congr 2
  rw [Int.fdiv_eq_ediv_of_nonneg _ (by exact Int.le_of_lt (Int.pow_pos (by omega)))]
  norm_cast
theorem aBin_shl1 (y : Nat) (hy : y ≤ 12) : aBin .shl (.int .i64 1) (.int .i64 (y : Int)) = some (.int .i64 ((2 ^ y : Nat) : Int)) := by
  have h0 : ¬ (y : Int) < 0 := by omega
  have h1 : min y 64 = y := by omega
  have h2 : 2 ^ y ≤ 2 ^ 12 := Nat.pow_le_pow_right (by omega) hy
  have h5 : ((2 ^ y : Nat) : Int) ≤ 4096 := Int.ofNat_le.2 h2
  have h6 : (0 : Int) ≤ ((2 ^ y : Nat) : Int) := Int.natCast_nonneg _
  simp only [aBin, isShift, cond_true, shBin, if_neg h0, Int.toNat_natCast, IntKind.bits, h1, Int.one_mul]
  have h3 : (2 : Int) ^ y = ((2 ^ y : Nat) : Int) := by norm_cast
  rw [h3, wrap64 (by omega) (by omega)]

theorem clique_of {g : List (List Bool)} (hg : graphM g = true) {l : List Int} (ho : inOrd g.length l) (ha : adjAll g l = true) : cliqueM g l = true := by
  unfold cliqueM
  rw [hg, Bool.true_and]
  refine allF_iff.2 fun i _ hi => ?_
  have hi' : i < l.length := by omega
  have h1 := ho i hi'
  unfold adjAll at ha
  have h2 := allF_iff.1 ha i (Nat.zero_le _) (by omega)
  simp only [cliqueAt, Bool.and_eq_true]
  refine ⟨by simp only [inR, decide_eq_true_iff]; omega, allF_iff.2 fun j _ hj => ?_⟩
  have hj' : j < i := by omega
  have h3 := allF_iff.1 h2 j (Nat.zero_le _) (by omega)
  have h4 := ho j (by omega)
  rw [Bool.and_eq_true, decide_eq_true_iff]
  refine ⟨h1.2.2 j hj', ?_⟩
  rw [adj_symm hg (by simp only [inR, decide_eq_true_iff]; omega) (by simp only [inR, decide_eq_true_iff]; omega)]; exact h3
def isMax (g : List (List Bool)) (l : List Int) : Bool := adjAll g l && decide ((extP g l g.length).length = 0)
def stepC (g : List (List Bool)) (c : Nat) (l : List Int) : Nat := c + if isMax g l = true then 1 else 0
/-- maximal cliques that extend l by some of the last m vertices -/
def cntM (g : List (List Bool)) : Nat → List Int → Nat
  | 0, l => if isMax g l = true then 1 else 0
  | m + 1, l => cntM g m (l ++ [((g.length - (m + 1) : Nat) : Int)]) + cntM g m l
theorem cntM_le (g : List (List Bool)) : ∀ (m : Nat) (l : List Int), cntM g m l ≤ 2 ^ m
  | 0, l => by unfold cntM; split <;> simp
  | m + 1, l => by
    have h1 := cntM_le g m (l ++ [((g.length - (m + 1) : Nat) : Int)])
    have h2 := cntM_le g m l
    simp only [cntM, Nat.pow_succ]; omega
theorem cntM_bad (g : List (List Bool)) (hg : graphM g = true) : ∀ (m : Nat) (l : List Int), m ≤ g.length → inOrd (g.length - m) l → adjAll g l = false → cntM g m l = 0
  | 0, l, _, _, h => by simp [cntM, isMax, h]
  | m + 1, l, hm, ho, h => by
    have ho' := inOrd_snoc ho
    rw [show g.length - (m + 1) + 1 = g.length - m by omega] at ho'
    simp only [cntM]
    rw [cntM_bad g hg m _ (by omega) ho' (by rw [adjAll_snoc g hg l _ (by omega) (inOrd_mono ho (by omega)), h, Bool.false_and]), cntM_bad g hg m l (by omega) (inOrd_mono ho (by omega)) h]
theorem cnt_fold (g : List (List Bool)) : (vsP g.length (2 ^ g.length)).foldl (stepC g) 0 = cntM g g.length [] := by
  rw [vsP_all, fold_vs (stepC g) (fun m l s => s + cntM g m l) g.length (fun l s => rfl) (fun m l s _ => by simp only [cntM]; omega) g.length 0 0 (Nat.le_refl _), Nat.sub_self, setOf_zero, Nat.zero_add]
/-- the later vertex v chosen next -/
def termC (g : List (List Bool)) (l : List Int) (lo : Nat) (x : Int) : Nat := if (lo : Int) ≤ x then cntM g (g.length - 1 - x.toNat) (l ++ [x]) else 0
theorem cnt_terms (g : List (List Bool)) (hg : graphM g = true) (l : List Int) (lo : Nat) (ho : inOrd lo l) (ha : adjAll g l = true) : ∀ k, k ≤ g.length → (lo ≤ k → cntM g (g.length - k) l + ((extP g l k).map (termC g l lo)).sum = cntM g (g.length - lo) l) ∧ (k ≤ lo → ((extP g l k).map (termC g l lo)).sum = 0)
  | 0, _ => by
    refine ⟨fun h => ?_, fun _ => rfl⟩
    have : lo = 0 := by omega
    subst this; rfl
  | k + 1, hk => by
    obtain ⟨i1, i2⟩ := cnt_terms g hg l lo ho ha k (by omega)
    rw [extP_succ, List.map_append, List.sum_append]
    have hat : adjTo g l k = allF (fun j => adjI g k (vt l j)) 0 l.length := rfl
    rw [← hat]
    constructor
    · intro h
      by_cases e : lo = k + 1
      · rw [i2 (by omega)]
        have : ((if adjTo g l k = true then [(k : Int)] else []).map (termC g l lo)).sum = 0 := by
          split
          · simp only [List.map_cons, List.map_nil, List.sum_cons, List.sum_nil, termC]; rw [if_neg (by omega)]; omega
          · rfl
        rw [this, e]; rfl
      · have i1 := i1 (by omega)
        have e1 : g.length - k = (g.length - (k + 1)) + 1 := by omega
        have e2 : g.length - (g.length - (k + 1) + 1) = k := by omega
        rw [e1] at i1
        simp only [cntM, e2] at i1
        have hs := adjAll_snoc g hg l k (by omega) (inOrd_mono ho (by omega))
        rw [ha, Bool.true_and] at hs
        have : ((if adjTo g l k = true then [(k : Int)] else []).map (termC g l lo)).sum = cntM g (g.length - (k + 1)) (l ++ [(k : Int)]) := by
          cases hb : adjTo g l k with
          | true =>
            rw [if_pos rfl]
            simp only [List.map_cons, List.map_nil, List.sum_cons, List.sum_nil, termC]
            rw [if_pos (by omega), Int.toNat_natCast, show g.length - 1 - k = g.length - (k + 1) by omega]; omega
          | false =>
            rw [if_neg Bool.false_ne_true]
            rw [hb] at hs
            rw [cntM_bad g hg (g.length - (k + 1)) _ (by omega) (by rw [show g.length - (g.length - (k + 1)) = k + 1 by omega]; exact inOrd_snoc (inOrd_mono ho (by omega))) hs]; rfl
        rw [this]; omega
    · intro h
      rw [i2 (by omega)]
      split
      · simp only [List.map_cons, List.map_nil, List.sum_cons, List.sum_nil, termC]; rw [if_neg (by omega)]; omega
      · rfl
theorem cnt_sum (g : List (List Bool)) (hg : graphM g = true) (l : List Int) (m : Nat) (hm : m ≤ g.length) (ho : inOrd (g.length - m) l) (ha : adjAll g l = true) :
    (if (extP g l g.length).length = 0 then 1 else 0) + ((extP g l g.length).map (termC g l (g.length - m))).sum = cntM g m l := by
  have := (cnt_terms g hg l (g.length - m) ho ha g.length (Nat.le_refl _)).1 (by omega)
  rw [Nat.sub_self, show g.length - (g.length - m) = m by omega] at this
  rw [← this]
  simp only [cntM, isMax, ha, Bool.true_and, decide_eq_true_iff]
theorem sum_take_le (l : List Nat) (i : Nat) : (l.take i).sum ≤ l.sum := by
  have := congrArg List.sum (List.take_append_drop i l)
  rw [List.sum_append] at this; omega
theorem extP_mem {g : List (List Bool)} {l : List Int} {m : Nat} {x : Int} (h : x ∈ extP g l m) : ∃ v : Nat, x = (v : Int) ∧ v < m ∧ adjTo g l v = true := by
  simp only [extP, List.mem_map, List.mem_filter, List.mem_range] at h
  obtain ⟨v, ⟨h1, h2⟩, rfl⟩ := h
  exact ⟨v, rfl, h1, h2⟩
def countM (g : List (List Bool)) : Int := if graphM g = true then (cntM g g.length [] : Nat) else 0

/-- a clique in order, by pairs -/
def PC (g : List (List Bool)) (l : List Int) : Prop := (∀ x ∈ l, 0 ≤ x ∧ x < g.length) ∧ l.Pairwise fun a b => a < b ∧ adjI g a b = true
theorem vt_get {l : List Int} {i : Nat} (h : i < l.length) : vt l i = l[i] := by simp [vt, List.getElem?_eq_getElem h]
theorem PC_iff {g : List (List Bool)} {l : List Int} : PC g l ↔ inOrd g.length l ∧ adjAll g l = true := by
  constructor
  · rintro ⟨h1, h2⟩
    rw [List.pairwise_iff_getElem] at h2
    refine ⟨fun j hj => ?_, allF_iff.2 fun i _ hi => allF_iff.2 fun j _ hj => ?_⟩
    · rw [vt_get hj]
      have := h1 _ (List.getElem_mem hj)
      exact ⟨this.1, this.2, fun i hi => by rw [vt_get (by omega)]; exact (h2 i j (by omega) hj hi).1⟩
    · rw [vt_get (by omega), vt_get (by omega)]
      exact (h2 j i (by omega) (by omega) (by omega)).2
  · rintro ⟨h1, h2⟩
    unfold adjAll at h2
    refine ⟨fun x hx => ?_, List.pairwise_iff_getElem.2 fun i j hi hj hij => ?_⟩
    · obtain ⟨i, hi, rfl⟩ := List.mem_iff_getElem.1 hx
      have := h1 i hi
      rw [vt_get hi] at this; exact ⟨this.1, this.2.1⟩
    · have a := (h1 j hj).2.2 i hij
      have b := allF_iff.1 (allF_iff.1 h2 j (Nat.zero_le _) (by omega)) i (Nat.zero_le _) (by omega)
      rw [vt_get hi, vt_get hj] at a b
      exact ⟨a, b⟩
theorem PC.adj {g : List (List Bool)} {l : List Int} (h : PC g l) {x y : Int} (hx : x ∈ l) (hy : y ∈ l) (hxy : x < y) : adjI g x y = true := by
  obtain ⟨i, hi, rfl⟩ := List.mem_iff_getElem.1 hx
  obtain ⟨j, hj, rfl⟩ := List.mem_iff_getElem.1 hy
  have h2 := List.pairwise_iff_getElem.1 h.2
  rcases Nat.lt_trichotomy i j with e | e | e
  · exact (h2 i j hi hj e).2
  · subst e; omega
  · have := (h2 j i hj hi e).1; omega
theorem adjTo_iff {g : List (List Bool)} {l : List Int} {v : Nat} : adjTo g l v = true ↔ ∀ x ∈ l, adjI g (v : Int) x = true := by
  constructor
  · intro h x hx
    obtain ⟨i, hi, rfl⟩ := List.mem_iff_getElem.1 hx
    have := allF_iff.1 h i (Nat.zero_le _) (by omega)
    rwa [vt_get hi] at this
  · intro h
    refine allF_iff.2 fun i _ hi => ?_
    rw [vt_get (by omega)]; exact h _ (List.getElem_mem (by omega))
theorem bestM_cliq (g : List (List Bool)) (hg : graphM g = true) : ∀ (m : Nat) (l : List Int), m ≤ g.length → inOrd (g.length - m) l → adjAll g l = true → inOrd g.length (bestM g m l) ∧ adjAll g (bestM g m l) = true
  | 0, l, _, ho, ha => by simpa [bestM] using ⟨ho, ha⟩
  | m + 1, l, hm, ho, ha => by
    have ho' := inOrd_snoc ho
    rw [show g.length - (m + 1) + 1 = g.length - m by omega] at ho'
    have hs := adjAll_snoc g hg l (g.length - (m + 1)) (by omega) (inOrd_mono ho (by omega))
    rw [ha, Bool.true_and] at hs
    have h2 := bestM_cliq g hg m l (by omega) (inOrd_mono ho (by omega)) ha
    unfold bestM
    split
    · rename_i had
      have h1 := bestM_cliq g hg m _ (by omega) ho' (by rw [hs]; exact had)
      split
      · exact h2
      · exact h1
    · exact h2
theorem bestM_succ (g : List (List Bool)) (m : Nat) (l : List Int) : bestM g (m + 1) l = if adjTo g l (g.length - (m + 1)) = true then
      (if (bestM g m (l ++ [((g.length - (m + 1) : Nat) : Int)])).length < (bestM g m l).length then bestM g m l else bestM g m (l ++ [((g.length - (m + 1) : Nat) : Int)]))
    else bestM g m l := rfl
theorem filter_len {α : Type} (p : α → Bool) : ∀ l : List α, l.length = (l.filter p).length + (l.filter fun y => !p y).length
  | [] => rfl
  | x :: l => by
    have := filter_len p l
    cases h : p x <;> simp [List.filter_cons, h] <;> omega
theorem bestM_max (g : List (List Bool)) (hg : graphM g = true) : ∀ (m : Nat) (l r : List Int), m ≤ g.length → PC g (l ++ r) → (∀ x ∈ r, ((g.length - m : Nat) : Int) ≤ x) → (l ++ r).length ≤ (bestM g m l).length
  | 0, l, r, _, h, hr => by
    cases r with
    | nil => simp [bestM]
    | cons x r =>
      have h1 := hr x List.mem_cons_self
      have h2 := h.1 x (by simp)
      omega
  | m + 1, l, r, hm, h, hr => by
    have hge : (bestM g m l).length ≤ (bestM g (m + 1) l).length := by
      rw [bestM_succ]
      split
      · split
        · exact Nat.le_refl _
        · omega
      · exact Nat.le_refl _
    cases r with
    | nil =>
      have := bestM_max g hg m l [] (by omega) h (by simp)
      omega
    | cons x r =>
      have hp := List.pairwise_append.1 h.2
      have hpr := List.pairwise_cons.1 hp.2.1
      by_cases hx : x = ((g.length - (m + 1) : Nat) : Int)
      · subst hx
        have e : l ++ ((g.length - (m + 1) : Nat) : Int) :: r = (l ++ [((g.length - (m + 1) : Nat) : Int)]) ++ r := by simp
        have h' := h
        rw [e] at h'
        have := bestM_max g hg m (l ++ [((g.length - (m + 1) : Nat) : Int)]) r (by omega) h' (fun y hy => by have := (hpr.1 y hy).1; omega)
        rw [e]
        have had : adjTo g l (g.length - (m + 1)) = true := adjTo_iff.2 fun y hy => by
          have a := (hp.2.2 y hy _ List.mem_cons_self).2
          have b := h.1 y (by simp [hy])
          have c := h.1 ((g.length - (m + 1) : Nat) : Int) (by simp)
          rw [adj_symm hg (by simp only [inR, decide_eq_true_iff]; omega) (by simp only [inR, decide_eq_true_iff]; omega)]; exact a
        have : (bestM g m (l ++ [((g.length - (m + 1) : Nat) : Int)])).length ≤ (bestM g (m + 1) l).length := by
          rw [bestM_succ, if_pos had]
          split <;> omega
        omega
      · have h0 := hr x List.mem_cons_self
        have := bestM_max g hg m l (x :: r) (by omega) h (fun y hy => by
          rcases List.mem_cons.1 hy with rfl | hy
          · omega
          · have := (hpr.1 y hy).1; omega)
        omega
theorem maxM_eq {g : List (List Bool)} (hg : graphM g = true) : maxM g = bestM g g.length [] := by
  unfold maxM upd
  rw [if_pos hg]
  split
  · rfl
  · rename_i h
    have : (bestM g g.length []).length = 0 := by simpa using h
    exact (List.length_eq_zero_iff.1 this).symm
theorem maxM_PC {g : List (List Bool)} (hg : graphM g = true) : PC g (maxM g) := by
  rw [maxM_eq hg]
  exact PC_iff.2 (bestM_cliq g hg g.length [] (Nat.le_refl _) (fun j hj => by simp at hj) rfl)
theorem maxM_max {g : List (List Bool)} (hg : graphM g = true) {c : List Int} (h : PC g c) : c.length ≤ (maxM g).length := by
  rw [maxM_eq hg]
  have := bestM_max g hg g.length [] c (Nat.le_refl _) h (fun x hx => by have := (h.1 x hx).1; omega)
  simpa using this
theorem maxM_clique {g : List (List Bool)} (hg : graphM g = true) : cliqueM g (maxM g) = true := by
  obtain ⟨a, b⟩ := PC_iff.1 (maxM_PC hg)
  exact clique_of hg a b
theorem adj_irrefl {g : List (List Bool)} (hg : graphM g = true) {v : Nat} (hv : v < g.length) : adjI g (v : Int) (v : Int) = false := by
  unfold graphM at hg
  simp only [Bool.and_eq_true] at hg
  have h1 := allF_iff.1 hg.2 v (Nat.zero_le _) (by omega)
  have h2 := allF_iff.1 h1 v (Nat.zero_le _) (by omega)
  simp [cellOk] at h2
  simpa [adjI] using h2
theorem maxM_ext {g : List (List Bool)} (hg : graphM g = true) : extP g (maxM g) g.length = [] := by
  rcases he : extP g (maxM g) g.length with _ | ⟨x, es⟩
  · rfl
  · exfalso
    obtain ⟨v, rfl, hv, ha⟩ := extP_mem (g := g) (l := maxM g) (m := g.length) (x := x) (by rw [he]; exact List.mem_cons_self)
    have hp := maxM_PC hg
    have hadj := adjTo_iff.1 ha
    have hne : ∀ y ∈ maxM g, y ≠ (v : Int) := by
      rintro y hy rfl
      have := hadj _ hy
      rw [adj_irrefl hg hv] at this; cases this
    have symm : ∀ y ∈ maxM g, adjI g y (v : Int) = true := fun y hy => by
      have b := hp.1 y hy
      rw [adj_symm hg (by simp only [inR, decide_eq_true_iff]; omega) (by simp only [inR, decide_eq_true_iff]; omega)]; exact hadj y hy
    have hlen := filter_len (fun y => decide (y < (v : Int))) (maxM g)
    have hm : ∀ y ∈ (maxM g).filter (fun y => decide (y < (v : Int))), y ∈ maxM g ∧ y < (v : Int) := fun y hy => by simpa using hy
    have hm2 : ∀ y ∈ (maxM g).filter (fun y => !decide (y < (v : Int))), y ∈ maxM g ∧ (v : Int) < y := fun y hy => by
      have : y ∈ maxM g ∧ (v : Int) ≤ y := by simpa using hy
      have := hne y this.1
      exact ⟨by simp_all, by omega⟩
    have hC : PC g ((maxM g).filter (fun y => decide (y < (v : Int))) ++ (v : Int) :: (maxM g).filter (fun y => !decide (y < (v : Int)))) := by
      refine ⟨fun y hy => ?_, List.pairwise_append.2 ⟨hp.2.filter _, List.pairwise_cons.2 ⟨fun y hy => ⟨(hm2 y hy).2, hadj y (hm2 y hy).1⟩, hp.2.filter _⟩, fun y hy z hz => ?_⟩⟩
      · rcases List.mem_append.1 hy with hy | hy
        · exact hp.1 y (hm y hy).1
        · rcases List.mem_cons.1 hy with rfl | hy
          · omega
          · exact hp.1 y (hm2 y hy).1
      · rcases List.mem_cons.1 hz with rfl | hz
        · exact ⟨(hm y hy).2, symm y (hm y hy).1⟩
        · have h1 := hm y hy; have h2 := hm2 z hz
          exact ⟨by omega, hp.adj h1.1 h2.1 (by omega)⟩
    have := maxM_max hg hC
    simp only [List.length_append, List.length_cons] at this
    omega
theorem cntM_pos (g : List (List Bool)) : ∀ (m : Nat) (l : List Int), isMax g (bestM g m l) = true → 1 ≤ cntM g m l
  | 0, l, h => by
    simp only [bestM] at h
    simp [cntM, h]
  | m + 1, l, h => by
    simp only [cntM]
    unfold bestM at h
    split at h
    · split at h
      · have := cntM_pos g m l h; omega
      · have := cntM_pos g m _ h; omega
    · have := cntM_pos g m l h; omega
theorem count_pos {g : List (List Bool)} (hg : graphM g = true) : 1 ≤ countM g := by
  have : 1 ≤ cntM g g.length [] := by
    refine cntM_pos g g.length [] ?_
    rw [← maxM_eq hg]
    simp only [isMax, (PC_iff.1 (maxM_PC hg)).2, maxM_ext hg, List.length_nil, decide_true, Bool.and_self]
  unfold countM
  rw [if_pos hg]; omega
theorem maxM_nil {g : List (List Bool)} (hg : graphM g = true) : g.length = 0 ↔ (maxM g).length = 0 := by
  constructor
  · intro h
    have hp := maxM_PC hg
    cases e : maxM g with
    | nil => rfl
    | cons x l => have := hp.1 x (by rw [e]; exact List.mem_cons_self); omega
  · intro h
    by_cases h0 : g.length = 0
    · exact h0
    · have := maxM_max hg (c := [0]) ⟨fun x hx => by simp at hx; omega, by simp⟩
      simp at this; omega
theorem pig2 : ∀ (k : Nat) (t : List Int), t.Nodup → (∀ x ∈ t, 0 ≤ x ∧ x < k) → t.length ≤ k
  | 0, t, _, h => by
    cases t with
    | nil => simp
    | cons x t => have := h x List.mem_cons_self; omega
  | k + 1, t, hn, h => by
    by_cases hk : (k : Int) ∈ t
    · have := pig2 k (t.erase k) (hn.erase _) fun x hx => by
        have := (hn.mem_erase_iff).1 hx
        have := h x this.2; omega
      rw [List.length_erase_of_mem hk] at this
      omega
    · have := pig2 k t hn fun x hx => by
        have := h x hx
        have : x ≠ k := fun e => hk (e ▸ hx)
        omega
      omega
theorem colM_pre (g : List (List Bool)) : ∀ (d m u : Nat), u < m → vt (colM g (m + d)) u = vt (colM g m) u
  | 0, m, u, _ => rfl
  | d + 1, m, u, hu => by
    rw [show m + (d + 1) = (m + d) + 1 by omega, colM, vt_append_left (by rw [colM_length]; omega), colM_pre g d m u hu]
theorem colM_diff (g : List (List Bool)) {n u v : Nat} (hu : u < v) (hv : v < n) (ha : adjI g (u : Int) (v : Int) = true) : vt (colM g n) u ≠ vt (colM g n) v := by
  have e1 : vt (colM g n) u = vt (colM g v) u := by
    have := colM_pre g (n - v) v u hu; rwa [show v + (n - v) = n by omega] at this
  have e2 : vt (colM g n) v = (mex (tkM g (colM g v) v v) : Int) := by
    have := colM_pre g (n - (v + 1)) (v + 1) v (by omega)
    rw [show v + 1 + (n - (v + 1)) = n by omega] at this
    rw [this, colM]
    have h := vt_append_last (l := colM g v) (x := (mex (tkM g (colM g v) v v) : Int))
    rwa [colM_length] at h
  rw [e1, e2]
  intro e
  exact mex_not (tkM g (colM g v) v v) (mem_tkM.2 ⟨u, hu, ha, e⟩)
theorem clique_colors {g : List (List Bool)} {l : List Int} (hp : PC g l) {most : Nat} (hm : ∀ c ∈ colM g g.length, c + 1 ≤ (most : Int)) : l.length ≤ most := by
  have := pig2 most (l.map fun x => vt (colM g g.length) x.toNat) (by
    unfold List.Nodup
    rw [List.pairwise_map]
    refine hp.2.imp_of_mem fun {a b} ha hb h => ?_
    have h1 := hp.1 a ha; have h2 := hp.1 b hb
    exact colM_diff g (by omega) (by omega) (by rw [show ((a.toNat : Nat) : Int) = a by omega, show ((b.toNat : Nat) : Int) = b by omega]; exact h.2)) fun x hx => by
    obtain ⟨y, hy, rfl⟩ := List.mem_map.1 hx
    have h1 := hp.1 y hy
    have hmem : vt (colM g g.length) y.toNat ∈ colM g g.length := by
      rw [vt_get (by rw [colM_length]; omega)]; exact List.getElem_mem _
    have := colM_bound g g.length _ hmem
    have := hm _ hmem
    omega
  simpa using this

theorem one_ne_zero' : ¬ (1 : Nat) = 0 := by omega
theorem nne1 (a : Nat) : ¬ a = a + 1 := by omega
theorem nne2 (a : Nat) : ¬ a = a + 1 + 1 := by omega
theorem nne3 (a : Nat) : ¬ a = a + 1 + 1 + 1 := by omega
theorem zero_ne_one' : ¬ (0 : Nat) = 1 := by omega
theorem new_m' (st : St) (s : Nat) (es : List AV) : (st.new s es).m = st.m + 1 := id rfl
theorem new_n' (st : St) (s : Nat) (es : List AV) : (st.new s es).n = st.n + 1 := id rfl
theorem setN_m' (st : St) (n : Nat) : (st.setN n).m = st.m := id rfl
theorem setN_n' (st : St) (n : Nat) : (st.setN n).n = n := id rfl
theorem st0_m' (n : Nat) : (st0 n).m = 0 := id rfl
theorem st0_n' (n : Nat) : (st0 n).n = n := id rfl
theorem put_m' (st : St) (j : Nat) (a : LArr) : (st.put j a).m = st.m := id rfl
theorem put_n' (st : St) (j : Nat) (a : LArr) : (st.put j a).n = st.n := id rfl
theorem mkNew_zc {α : Type} {cs : List AV} {st : St} {K : AV → St → Option α} (h : cs.all AV.one = true) (h0 : ¬ cs.length = 0) : mkNew (.agg cs) st K = K (.ptr st.m st.n 0 0) (st.new cs.length [.agg cs]) := mkNew_eq h h0
theorem ba_toList (b : ByteArray) : b.toList = b.data.toList := by
  have : ∀ (k i : Nat) (acc : List UInt8), b.size - i = k → ByteArray.toList.loop b i acc = acc.reverse ++ b.data.toList.drop i := by
    intro k
    induction k with
    | zero =>
      intro i acc h
      unfold ByteArray.toList.loop
      rw [if_neg (by omega), List.drop_of_length_le (by simp; have : b.data.size = b.size := rfl; omega)]; simp
    | succ k ih =>
      intro i acc h
      unfold ByteArray.toList.loop
      have hi : i < b.size := by omega
      have hi' : i < b.data.toList.length := by simpa using hi
      rw [if_pos hi, ih (i + 1) _ (by omega), List.reverse_cons, List.append_assoc, List.singleton_append, List.drop_eq_getElem_cons hi']
      congr 2
      simp [ByteArray.get!]
      rw [getElem!_pos]
  have := this b.size 0 [] (by omega)
  simpa [ByteArray.toList] using this
theorem aBin_seql (a b : ByteArray) : aBin .eql (.str a) (.str b) = some (.bool (decide (a = b))) := by
  have : (a.toList == b.toList) = decide (a = b) := by
    by_cases h : a = b
    · subst h; simp
    · simp only [h, decide_false]
      have : ¬ a.toList = b.toList := fun e => h (by
        have h1 : a.data.toList = b.data.toList := by
          have ha : a.toList = a.data.toList := ba_toList a
          have hb : b.toList = b.data.toList := ba_toList b
          rw [← ha, ← hb, e]
        have h2 : a.data = b.data := Array.toList_inj.1 h1
        cases a; cases b; simp at h2; rw [h2])
      simp [this]
  simp only [aBin, sBin, this]
theorem aBin_sneq (a b : ByteArray) : aBin .neq (.str a) (.str b) = some (.bool (decide (¬ a = b))) := by
  have h := aBin_seql a b
  simp only [aBin, sBin, Option.some.injEq, AV.bool.injEq] at h ⊢
  rw [h]; by_cases e : a = b <;> simp [e]

/-- a call gives a value without slices -/
def Gives (f : Nat) (xs : List AV) (r : AV) : Prop := ∀ n, Ok (L.call f xs n) fun p => n ≤ p.2 ∧ p.1 = r
theorem Gives.of {f : Nat} {xs : List AV} {r : AV} (h : ∀ n, L.call f xs n = some (r, n)) : Gives f xs r := fun n => ⟨_, h n, Nat.le_refl _, rfl⟩
theorem Ok.gives {β : Type} {f : Nat} {xs : List AV} {r : AV} {st : St} {K : AV × St → Option β} {Q : β → Prop} (hg : Gives f xs r) (hp : ∀ x ∈ xs, Plain x) (k : ∀ n', st.n ≤ n' → Ok (K (r, st.setN n')) Q) : Ok ((clV L f 0 xs st).bind K) Q :=
  Ok.call (hg st.n) hp fun r' n' h => by rw [show r' = r from h.2]; exact k n' h.1
/-- the same, where arguments may be local arrays; the result has no slices -/
theorem Ok.givesL {β : Type} {f : Nat} {xs ts : List AV} {r : AV} {st : St} {K : AV × St → Option β} {Q : β → Prop} (hg : Gives f ts r) (hr : mapO (res st) xs = some ts) (hl : ∀ ls, reloc ls r = some r) (k : ∀ n', st.n ≤ n' → Ok (K (r, st.setN n')) Q) : Ok ((clV L f 0 xs st).bind K) Q :=
  Ok.callL hr (hg st.n) fun r' n' h => by rw [show r' = r from h.2]; exact ⟨r, hl _, k n' h.1⟩
theorem Ok.ret {n m : Nat} {v r : AV} {st : St} (h : resTup st v = some v) (hn : n ≤ m) (e : v = r) : Ok ((resTup st v).bind fun r => some (r, m)) fun p => n ≤ p.2 ∧ p.1 = r := by
  rw [h]; exact ⟨_, rfl, hn, e⟩
theorem Ok.retb {n m : Nat} {b c : Bool} {st : St} (hn : n ≤ m) (e : b = c) : Ok ((resTup st (.bool b)).bind fun r => some (r, m)) fun p => n ≤ p.2 ∧ p.1 = .bool c := Ok.ret rfl hn (by rw [e])
theorem Ok.reti {n m : Nat} {k : IntKind} {b c : Int} {st : St} (hn : n ≤ m) (e : b = c) : Ok ((resTup st (.int k b)).bind fun r => some (r, m)) fun p => n ≤ p.2 ∧ p.1 = .int k c := Ok.ret rfl hn (by rw [e])
def plainB (v : AV) : Bool := v.tree && match v with | .agg cs => cs.all AV.one | v => v.one
theorem pB1 {v : AV} (h : plainB v = true) : Plain v := by
  unfold plainB at h
  rw [Bool.and_eq_true] at h
  refine ⟨h.1, ?_⟩
  cases v <;> first | exact .inr ⟨_, rfl, h.2⟩ | exact .inl h.2
theorem pB {xs : List AV} (h : xs.all plainB = true) : ∀ x ∈ xs, Plain x := fun x hx => pB1 (List.all_eq_true.1 h x hx)
theorem plain4 {a b c d : AV} (h : Plain a) (k : Plain b) (l : Plain c) (m : Plain d) : ∀ x ∈ [a, b, c, d], Plain x := by
  intro x hx
  simp only [List.mem_cons, List.not_mem_nil, or_false] at hx
  rcases hx with rfl | rfl | rfl | rfl <;> assumption

def RU8 (v : AV) (b : Int) : Prop := v = .int .u8 b
def BY (v : AV) (l : List Int) : Prop := SlOf 1 RU8 v l
theorem BY.plain {v : AV} {l : List Int} (h : BY v l) : Plain v := SlOf.plain h fun _ _ hr => by cases hr; rfl
theorem by_in {v : AV} (h : elHas false [.sl false [.int .u8]] v) : ∃ l, BY v l :=
  (has_sl (R := RU8) (P := fun _ => True) (arg_one h) fun _ hx => by
    simp only [CT.has] at hx
    obtain ⟨n, rfl, hw⟩ := hx
    exact ⟨n, rfl, trivial⟩).imp fun l h => h.1
theorem BY.get {st : St} {v : AV} {l : List Int} (h : BY v l) {i : Nat} {x : Int} (hx : l[i]? = some x) (kd : IntKind) : ∃ p, aIaddr 1 v (.int kd (i : Int)) = some p ∧ aLoad false 1 st p = some (.int .u8 x) := by
  obtain ⟨e, rfl, h1⟩ := SlOf.idx h hx
  exact ⟨_, h1 kd, rfl⟩
theorem and_ex (x : Int) (c : Nat) (hc : c < 2305843009213693952) : ∃ y : Int, aBin .and (.int .i64 x) (.int .i64 (c : Int)) = some (.int .i64 y) ∧ 0 ≤ y ∧ y ≤ c := by
  have h1 : (BitVec.ofInt 64 x &&& BitVec.ofInt 64 (c : Int)).toNat ≤ c := by
    rw [BitVec.toNat_and, BitVec.toNat_ofInt]
    refine Nat.le_trans Nat.and_le_right ?_
    rw [BitVec.toNat_ofInt]
    have : (c : Int) % ((2 ^ 64 : Nat) : Int) = c := Int.emod_eq_of_lt (by omega) (by omega)
    rw [this]; omega
  obtain ⟨N, hN⟩ : ∃ N, (BitVec.ofInt 64 x &&& BitVec.ofInt 64 (c : Int)).toNat = N := ⟨_, rfl⟩
  rw [hN] at h1
  refine ⟨(N : Int), ?_, by omega, by omega⟩
  have : aBin .and (.int .i64 x) (.int .i64 (c : Int)) = some (.int .i64 (IntKind.i64.wrap (((BitVec.ofInt 64 x &&& BitVec.ofInt 64 (c : Int)).toNat : Nat) : Int))) := rfl
  rw [this, hN, wrap64 (by omega) (by omega)]
def curV (b : AV) (i h : Int) : AV := .agg [b, .int .i64 i, .int .i64 h]
/-- a cursor in array j -/
def Cur (st : St) (c : AV) (j : Nat) : Prop := ∃ t b l, ∃ i : Nat, ∃ h : Int, c = .ptr j t 0 0 ∧ j < st.m ∧ st.H j = some ⟨t, 3, [curV b i h]⟩ ∧ BY b l ∧ i ≤ l.length ∧ l.length ≤ 1048576
theorem Cur.frame {st st' : St} {c : AV} {j : Nat} (h : Cur st c j) (k : st'.H j = st.H j) (hm : st.m ≤ st'.m) : Cur st' c j := by
  obtain ⟨t, b, l, i, h, h1, h2, h3, h4⟩ := h
  exact ⟨t, b, l, i, h, h1, by omega, by rw [k]; exact h3, h4⟩
/-- the cursor alone has moved -/
def CurS (st st' : St) (c : AV) (j : Nat) : Prop := Cur st' c j ∧ st'.m = st.m ∧ st'.n = st.n ∧ ∀ i, i ≠ j → st'.H i = st.H i
theorem CurS.refl {st : St} {c : AV} {j : Nat} (h : Cur st c j) : CurS st st c j := ⟨h, rfl, rfl, fun _ _ => rfl⟩
theorem CurS.trans {st st1 st2 : St} {c : AV} {j : Nat} (h : CurS st st1 c j) (k : CurS st1 st2 c j) : CurS st st2 c j :=
  ⟨k.1, k.2.1.trans h.2.1, k.2.2.1.trans h.2.2.1, fun i hi => (k.2.2.2 i hi).trans (h.2.2.2 i hi)⟩
theorem cur_ld0 {st : St} {j t : Nat} {b : AV} {i h : Int} (H : st.H j = some ⟨t, 3, [curV b i h]⟩) (hb : b.one = true) : aLoad false 1 st (.ptr j t 0 0) = some b := by
  simp only [aLoad, get_H H, Option.bind_some, List.getElem?_cons_zero, curV, AV.cells, List.drop_zero]
  cases b <;> simp [AV.one] at hb <;> rfl
theorem cur_ld1 {st : St} {j t : Nat} {b : AV} {i h : Int} (H : st.H j = some ⟨t, 3, [curV b i h]⟩) : aLoad false 1 st (.ptr j t 0 1) = some (.int .i64 i) := by
  simp only [aLoad, get_H H, Option.bind_some, List.getElem?_cons_zero, curV, AV.cells]; rfl
theorem cur_ld2 {st : St} {j t : Nat} {b : AV} {i h : Int} (H : st.H j = some ⟨t, 3, [curV b i h]⟩) : aLoad false 1 st (.ptr j t 0 2) = some (.int .i64 h) := by
  simp only [aLoad, get_H H, Option.bind_some, List.getElem?_cons_zero, curV, AV.cells]; rfl
theorem cur_st1 {st : St} {j t : Nat} {b : AV} {i h x : Int} (H : st.H j = some ⟨t, 3, [curV b i h]⟩) : aStore 1 (.ptr j t 0 1) (.int .i64 x) st = some (st.put j ⟨t, 3, [curV b x h]⟩) := by
  simp only [aStore, get_H H, Option.bind_some, List.getElem?_cons_zero, curV]; rfl
theorem cur_st2 {st : St} {j t : Nat} {b : AV} {i h x : Int} (H : st.H j = some ⟨t, 3, [curV b i h]⟩) : aStore 1 (.ptr j t 0 2) (.int .i64 x) st = some (st.put j ⟨t, 3, [curV b i x]⟩) := by
  simp only [aStore, get_H H, Option.bind_some, List.getElem?_cons_zero, curV]; rfl
theorem put_H_eq {st : St} {j : Nat} {a : LArr} : (st.put j a).H j = some a := by simp [St.put, nbeq]
theorem shr_ex (x : Int) (k : Nat) : ∃ y : Int, aBin .shr (.int .i64 x) (.int .u64 (k : Int)) = some (.int .i64 y) := by
  have h0 : ¬ (k : Int) < 0 := by omega
  simp only [aBin, isShift, cond_true, shBin, if_neg h0]
  exact ⟨_, rfl⟩
theorem rem_ex (x k : Int) (hx : 0 ≤ x) (hk : 0 < k) : ∃ y : Int, aBin .rem (.int .i64 x) (.int .i64 k) = some (.int .i64 y) ∧ 0 ≤ y ∧ y < k := by
  refine ⟨x.tmod k, aBin_rem _ _ _ (by omega), Int.tmod_nonneg _ hx, Int.tmod_lt_of_pos _ hk⟩

theorem All2.setR {α β : Type} {R R' : α → β → Prop} : ∀ {l : List α} {r : List β} (i : Nat) (y : β), All2 R l r → (∀ k a b, k ≠ i → l[k]? = some a → r[k]? = some b → R a b → R' a b) → (∀ a b, l[i]? = some a → r[i]? = some b → R a b → R' a y) → All2 R' l (r.set i y)
  | [], r, i, y, h, _, _ => by simp only [All2] at h ⊢; subst h; rfl
  | a :: l, r, i, y, h, k1, k2 => by
    simp only [All2] at h
    obtain ⟨b, r, rfl, h1, h2⟩ := h
    cases i with
    | zero =>
      rw [List.set_cons_zero]
      refine ⟨y, r, rfl, k2 a b rfl rfl h1, ?_⟩
      have := All2.setR (R := R) (R' := R') (l := l) (r := r) r.length y h2 (fun k a b hk ha hb hr => k1 (k + 1) a b (by omega) (by simpa using ha) (by simpa using hb) hr) (fun a b ha hb hr => by
        have := (List.getElem?_eq_some_iff.1 hb).1; omega)
      rwa [List.set_eq_of_length_le (Nat.le_refl _)] at this
    | succ i =>
      rw [List.set_cons_succ]
      exact ⟨b, r.set i y, rfl, k1 0 a b (by omega) rfl rfl h1, All2.setR i y h2 (fun k a b hk ha hb hr => k1 (k + 1) a b (by omega) (by simpa using ha) (by simpa using hb) hr) fun a b ha hb hr => k2 a b (by simpa using ha) (by simpa using hb) hr⟩
theorem All2.set2 {α β : Type} {R : α → β → Prop} : ∀ {l : List α} {r : List β} (i : Nat) (x : α) (y : β), All2 R l r → R x y → All2 R (l.set i x) (r.set i y)
  | [], r, i, x, y, h, _ => by simp only [All2] at h; subst h; rfl
  | a :: l, r, i, x, y, h, k => by
    simp only [All2] at h
    obtain ⟨b, r, rfl, h1, h2⟩ := h
    cases i with
    | zero => exact ⟨y, r, rfl, k, h2⟩
    | succ i => exact ⟨b, r.set i y, rfl, h1, All2.set2 i x y h2 k⟩
theorem NewL.set {d n n' : Nat} {T T' : AV} (ht : T'.tags = T.tags) (hb : thB T' = true) (hd : dep T' ≤ d) : ∀ {Ts : List AV} {i : Nat}, Ts[i]? = some T → NewL d n n' Ts → NewL d n n' (Ts.set i T') := by
  intro Ts i hi h
  have key : ∀ {Ts : List AV} {i : Nat}, Ts[i]? = some T → tagsL (Ts.set i T') = tagsL Ts ∧ (thBL Ts = true → thBL (Ts.set i T') = true) ∧ (depL Ts ≤ d → depL (Ts.set i T') ≤ d) := by
    intro Ts
    induction Ts with
    | nil => intro i hi; simp at hi
    | cons U Ts ih =>
      intro i hi
      cases i with
      | zero =>
        simp at hi; subst hi
        simp only [List.set_cons_zero, tagsL, thBL, depL, ht, hb, Bool.true_and, Bool.and_eq_true]
        exact ⟨trivial, fun h => h.2, fun h => by omega⟩
      | succ i =>
        obtain ⟨a, b, c⟩ := ih (by simpa using hi)
        simp only [List.set_cons_succ, tagsL, thBL, depL, a, Bool.and_eq_true]
        exact ⟨trivial, fun h => ⟨h.1, b h.2⟩, fun h => by have := c (by omega); omega⟩
  obtain ⟨a, b, c⟩ := key hi
  exact ⟨by rw [a]; exact h.1, by rw [a]; exact h.2.1, b h.2.2.1, c h.2.2.2⟩
theorem tags_inj : ∀ {Ts : List AV}, (tagsL Ts).Nodup → ∀ {k i : Nat} {a b : AV} {t : Nat}, Ts[k]? = some a → Ts[i]? = some b → t ∈ a.tags → t ∈ b.tags → k = i
  | [], _, k, i, a, b, t, ha, _, _, _ => by simp at ha
  | U :: Ts, h, k, i, a, b, t, ha, hb, h1, h2 => by
    simp only [tagsL, List.nodup_append] at h
    cases k with
    | zero =>
      cases i with
      | zero => rfl
      | succ i =>
        simp at ha hb; subst ha
        exact absurd rfl (h.2.2 t h1 t (tagsL_mem.2 ⟨b, List.mem_of_getElem? hb, h2⟩))
    | succ k =>
      cases i with
      | zero =>
        simp at ha hb; subst hb
        exact absurd rfl (h.2.2 t h2 t (tagsL_mem.2 ⟨a, List.mem_of_getElem? ha, h1⟩))
      | succ i => exact congrArg (· + 1) (tags_inj h.2.1 (k := k) (i := i) (by simpa using ha) (by simpa using hb) h1 h2)
theorem rb_tags {es : List AV} {l : List Bool} (h : All2 RB es l) : tagsL es = [] := depL_tags (rb_flat h).1 (rb_flat h).2.1
/-- arrays of one cell an element stay -/
def Ones (st st' : St) : Prop := st.m ≤ st'.m ∧ st.n ≤ st'.n ∧ ∀ k t es, st.H k = some ⟨t, 1, es⟩ → st'.H k = st.H k
theorem AccBSS.ones {n0 : Nat} {st st' : St} {v : AV} {rows : List (List Bool)} (h : AccBSS n0 st v rows) (k : Ones st st') : AccBSS n0 st' v rows := by
  obtain ⟨j, t, es, Ts, h1, h2, h3, h4, h5, h6, h7⟩ := h
  obtain ⟨k1, k2, k3⟩ := k
  refine ⟨j, t, es, Ts, h1.frame (k3 j t es h1.2), by omega, h3, by omega, h5, h6.mono fun a b hl => ?_, h7⟩
  rcases hl with h | ⟨j', t, es, rfl, g1, g2, g3, g4, g5⟩
  · exact .inl h
  · exact .inr ⟨j', t, es, rfl, by rw [k3 j' t es g1]; exact g1, by omega, g3, g4, g5⟩
theorem CurS.ones {st st' : St} {c : AV} {j : Nat} (h : Cur st c j) (k : CurS st st' c j) : Ones st st' := by
  refine ⟨Nat.le_of_eq k.2.1.symm, Nat.le_of_eq k.2.2.1.symm, fun i t es hi => k.2.2.2 i ?_⟩
  rintro rfl
  obtain ⟨t', b, l, i', h', h1, h2, h3, _⟩ := h
  rw [h3] at hi; simp at hi
theorem AccBSS.store {n0 : Nat} {st : St} {v : AV} {rows : List (List Bool)} (h : AccBSS n0 st v rows) {i j : Nat} {row : List Bool} (hi : rows[i]? = some row) (hj : j < row.length) (b : Bool) :
    ∃ w p q st', aIaddr 1 v (.int .i64 (i : Int)) = some p ∧ aLoad false 1 st p = some w ∧ aIaddr 1 w (.int .i64 (j : Int)) = some q ∧ aStore 1 q (.bool b) st = some st' ∧ AccBSS n0 st' v (rows.set i (row.set j b)) ∧ st'.m = st.m ∧ st'.n = st.n ∧ (∀ k t s es, s ≠ 1 → st.H k = some ⟨t, s, es⟩ → st'.H k = st.H k) := by
  obtain ⟨jo, t, es, Ts, h1, h2, h3, h4, h5, h6, h7⟩ := h
  obtain ⟨T, hT, hBS⟩ := h7.get i row hi
  obtain ⟨w, hw, hL⟩ := h6.get i T hT
  rcases hL with ⟨rfl, rfl⟩ | ⟨j', t', es', rfl, g1, g2, g3, rfl, g5⟩
  · exfalso
    obtain ⟨e, a, b⟩ := hBS
    rcases a with ⟨_, rfl⟩ | ⟨_, _, a⟩
    · simp only [All2] at b; subst b; simp at hj
    · cases a
  · have hrb : All2 RB es' row := by
      obtain ⟨e, a, b⟩ := hBS
      rcases a with ⟨a, _⟩ | ⟨_, _, a⟩
      · cases a
      · cases a; exact b
    have hlen := hrb.length
    have hiE : i < es.length := (List.getElem?_eq_some_iff.1 hw).1
    have hrb' : All2 RB (es'.set j (.bool b)) (row.set j b) := hrb.set2 j _ _ rfl
    have hone : es'[j].one = true := by
      obtain ⟨e, he, hr⟩ := hrb.get j row[j] (List.getElem?_eq_getElem hj)
      have : es'[j]'(by omega) = e := by rw [List.getElem?_eq_getElem (by omega)] at he; exact Option.some.inj he
      rw [this]; cases hr; rfl
    refine ⟨.lsl j' t' 1 0 es'.length, .ptr jo t i 0, .ptr j' t' j 0, st.put j' ⟨t', 1, es'.set j (.bool b)⟩, ?_, ?_, iaddr_lsl (by omega), store_one g1 (by omega) hone rfl, ?_, rfl, rfl, ?_⟩
    · rw [h1.1]; exact iaddr_lsl hiE
    · simp only [aLoad, get_H h1.2, Option.bind_some, hw]; rfl
    · refine ⟨jo, t, es, Ts.set i (.sl t' 0 1 (es'.set j (.bool b))), h1.frame (put_H_ne (Ne.symm g3)), h2, h3, h4, ?_, ?_, ?_⟩
      · refine NewL.set ?_ ?_ ?_ hT h5
        · simp only [AV.tags, rb_tags hrb, rb_tags hrb']
        · simp only [thB, (rb_flat hrb').2.1]; rfl
        · simp only [dep, (rb_flat hrb').1]; omega
      · refine h6.setR i _ (fun k a b hk ha hb hr => ?_) fun a b ha hb hr => ?_
        · rcases hr with hr | ⟨j2, t2, es2, rfl, q1, q2, q3, rfl, q5⟩
          · exact .inl hr
          · refine .inr ⟨j2, t2, es2, rfl, ?_, q2, q3, rfl, q5⟩
            have : j2 ≠ j' := by
              rintro rfl
              rw [q1] at g1; cases g1
              exact hk (tags_inj (t := t') h5.1 hb hT (by simp [AV.tags]) (by simp [AV.tags]))
            rw [put_H_ne this]; exact q1
        · rw [hw] at ha; cases ha
          refine .inr ⟨j', t', es'.set j (.bool _), by simp, put_H_eq, g2, g3, rfl, (rb_flat hrb').2.2⟩
      · exact h7.set2 i _ _ ⟨_, .inr ⟨_, _, rfl⟩, hrb'⟩
    · intro k t2 s es2 hs hk
      refine put_H_ne ?_
      rintro rfl
      rw [hk] at g1; cases g1; exact hs rfl
theorem at2_set {g : List (List Bool)} {i j : Nat} {row : List Bool} (hi : g[i]? = some row) (hj : j < row.length) (b : Bool) (u v : Nat) : at2 (g.set i (row.set j b)) u v = if u = i ∧ v = j then b else at2 g u v := by
  have hil := (List.getElem?_eq_some_iff.1 hi).1
  unfold at2
  by_cases hu : u = i
  · subst hu
    rw [List.getElem?_set_self hil, hi]
    by_cases hv : v = j
    · subst hv; simp [List.getElem?_set_self hj]
    · simp [hv, List.getElem?_set_ne (Ne.symm hv)]
  · rw [List.getElem?_set_ne (Ne.symm hu), if_neg (fun h => hu h.1)]
/-- a graph of n vertices -/
def GoodG (n : Nat) (g : List (List Bool)) : Prop := g.length = n ∧ (∀ r ∈ g, r.length = n) ∧ ∀ u v, at2 g u v = at2 g v u ∧ at2 g u u = false
theorem GoodG.graph {n : Nat} {g : List (List Bool)} (h : GoodG n g) (hn : n ≤ 12) : graphM g = true := by
  obtain ⟨h1, h2, h3⟩ := h
  unfold graphM
  simp only [Bool.and_eq_true, decide_eq_true_iff]
  refine ⟨⟨by omega, allF_iff.2 fun i _ hi => ?_⟩, allF_iff.2 fun i _ hi => allF_iff.2 fun j _ hj => ?_⟩
  · have : i < g.length := by omega
    simp only [lenOk, decide_eq_true_iff, List.getElem?_eq_getElem this, Option.map_some, Option.some.injEq]
    rw [h2 _ (List.getElem_mem this), h1]
  · simp only [cellOk, Bool.and_eq_true, Bool.not_eq_true', decide_eq_true_iff]
    refine ⟨?_, (h3 i j).1⟩
    by_cases e : i = j
    · subst e; simp [(h3 i i).2]
    · simp [e]
theorem GoodG.set {n : Nat} {g : List (List Bool)} (h : GoodG n g) {i j : Nat} (hi : i < n) (hj : j < i) (b : Bool) :
    ∃ ri rj, g[i]? = some ri ∧ j < ri.length ∧ (g.set i (ri.set j b))[j]? = some rj ∧ i < rj.length ∧ GoodG n ((g.set i (ri.set j b)).set j (rj.set i b)) := by
  obtain ⟨h1, h2, h3⟩ := h
  have hi' : i < g.length := by omega
  have hj' : j < g.length := by omega
  have l1 := h2 _ (List.getElem_mem hi')
  have l2 := h2 _ (List.getElem_mem hj')
  have e2 : (g.set i (g[i].set j b))[j]? = some g[j] := by rw [List.getElem?_set_ne (by omega), List.getElem?_eq_getElem hj']
  refine ⟨g[i], g[j], List.getElem?_eq_getElem hi', by omega, e2, by omega, by simp [h1], ?_, fun u v => ?_⟩
  · intro r hr
    rcases List.mem_or_eq_of_mem_set hr with hr | rfl
    · rcases List.mem_or_eq_of_mem_set hr with hr | rfl
      · exact h2 r hr
      · simpa using l1
    · simpa using l2
  · have A := at2_set e2 (show i < g[j].length by omega) b
    have B := at2_set (List.getElem?_eq_getElem hi') (show j < g[i].length by omega) b
    constructor
    · rw [A, A, B, B, (h3 u v).1]
      by_cases c1 : u = j ∧ v = i <;> by_cases c2 : v = j ∧ u = i <;> by_cases c3 : u = i ∧ v = j <;> by_cases c4 : v = i ∧ u = j <;> simp [c1, c2, c3, c4] <;> omega
    · rw [A, B, (h3 u u).2]
      rw [if_neg (by omega), if_neg (by omega)]

theorem at2_matP {n k : Nat} {c : Nat → Nat → Bool} {i j : Nat} (hi : i < k) (hj : j < n) : at2 (matP n c k) i j = c i j := by
  simp [at2, matP, matR, hi, hj]
theorem complM_len {g : List (List Bool)} (hg : graphM g = true) : (complM g).length = g.length := by simp [complM, hg, matP_length]
theorem complM_rows {g : List (List Bool)} (hg : graphM g = true) : ∀ r ∈ complM g, r.length = g.length := by
  intro r hr
  simp only [complM, hg, if_true, matP, List.mem_map] at hr
  obtain ⟨i, _, rfl⟩ := hr
  exact matR_length _ _
theorem complM_at {g : List (List Bool)} (hg : graphM g = true) {i j : Nat} (hi : i < g.length) (hj : j < g.length) : at2 (complM g) i j = (decide (¬ i = j) && !at2 g i j) := by
  simp only [complM, hg, if_true]
  rw [at2_matP hi hj]; rfl
theorem graph_sym {g : List (List Bool)} (hg : graphM g = true) {i j : Nat} (hi : i < g.length) (hj : j < g.length) : at2 g i j = at2 g j i ∧ at2 g i i = false := by
  have h := hg
  unfold graphM at h
  simp only [Bool.and_eq_true] at h
  have a := allF_iff.1 (allF_iff.1 h.2 i (Nat.zero_le _) (by omega)) j (Nat.zero_le _) (by omega)
  have b := allF_iff.1 (allF_iff.1 h.2 i (Nat.zero_le _) (by omega)) i (Nat.zero_le _) (by omega)
  simp [cellOk] at a b
  exact ⟨a.2, b⟩
theorem at2_out {g : List (List Bool)} {n : Nat} (hr : ∀ r ∈ g, r.length = n) (hl : g.length = n) {i j : Nat} (h : ¬ (i < n ∧ j < n)) : at2 g i j = false := by
  unfold at2
  by_cases hi : i < g.length
  · have := hr _ (List.getElem_mem hi)
    have hj : ¬ j < g[i].length := by omega
    rw [List.getElem?_eq_getElem hi, Option.bind_some, List.getElem?_eq_none (by omega)]; rfl
  · rw [List.getElem?_eq_none (by omega)]; rfl
theorem complM_graph {g : List (List Bool)} (hg : graphM g = true) : graphM (complM g) = true := by
  obtain ⟨h12, _⟩ := graphM_rows hg
  refine GoodG.graph (n := g.length) ⟨complM_len hg, complM_rows hg, fun u v => ?_⟩ h12
  have key : ∀ u v, at2 (complM g) u v = at2 (complM g) v u := by
    intro u v
    by_cases h : u < g.length ∧ v < g.length
    · rw [complM_at hg h.1 h.2, complM_at hg h.2 h.1, (graph_sym hg h.1 h.2).1]
      congr 1
      rw [decide_eq_decide]; omega
    · rw [at2_out (complM_rows hg) (complM_len hg) h, at2_out (complM_rows hg) (complM_len hg) (fun k => h ⟨k.2, k.1⟩)]
  refine ⟨key u v, ?_⟩
  by_cases h : u < g.length
  · rw [complM_at hg h h]; simp
  · exact at2_out (complM_rows hg) (complM_len hg) (fun k => h k.1)
theorem compl_compl {g : List (List Bool)} (hg : graphM g = true) {i j : Nat} (hi : i < g.length) (hj : j < g.length) : at2 (complM (complM g)) i j = at2 g i j := by
  have hl := complM_len hg
  rw [complM_at (complM_graph hg) (by omega) (by omega), complM_at hg hi hj]
  by_cases e : i = j
  · subst e; simp [(graph_sym hg hi hi).2]
  · simp [e]
/-- two vertices of a clique of the graph are no two of one of the complement -/
theorem meet_one {g : List (List Bool)} (hg : graphM g = true) {a b : List Int} (ha : PC g a) (hb : PC (complM g) b) {x y : Int} (hx : x ∈ a) (hx' : x ∈ b) (hy : y ∈ a) (hy' : y ∈ b) : x = y := by
  have key : ∀ {x y : Int}, x ∈ a → x ∈ b → y ∈ a → y ∈ b → ¬ x < y := by
    intro x y hx hx' hy hy' hlt
    have h1 := ha.adj hx hy hlt
    have h2 := hb.adj hx' hy' hlt
    have b1 := ha.1 x hx; have b2 := ha.1 y hy
    unfold adjI at h1 h2
    rw [complM_at hg (by omega) (by omega), h1] at h2
    simp at h2
  have := key hx hx' hy hy'
  have := key hy hy' hx hx'
  omega
def meetN (a : List Int) : List Int → Nat
  | [] => 0
  | x :: b => (if x ∈ a then 1 else 0) + meetN a b
theorem meetN_zero {a : List Int} : ∀ {b : List Int}, (∀ x ∈ b, x ∉ a) → meetN a b = 0
  | [], _ => rfl
  | x :: b, h => by
    simp only [meetN]
    rw [if_neg (h x List.mem_cons_self), meetN_zero fun y hy => h y (List.mem_cons_of_mem _ hy)]
theorem meetN_le {a : List Int} : ∀ {b : List Int}, b.Nodup → (∀ x ∈ b, ∀ y ∈ b, x ∈ a → y ∈ a → x = y) → meetN a b ≤ 1
  | [], _, _ => by simp [meetN]
  | x :: b, hn, h => by
    have hn' := List.nodup_cons.1 hn
    simp only [meetN]
    by_cases hx : x ∈ a
    · rw [if_pos hx, meetN_zero fun y hy hya => hn'.1 (by rw [h x List.mem_cons_self y (List.mem_cons_of_mem _ hy) hx hya]; exact hy)]
      omega
    · rw [if_neg hx]
      have := meetN_le hn'.2 fun y hy z hz => h y (List.mem_cons_of_mem _ hy) z (List.mem_cons_of_mem _ hz)
      omega
theorem meetN_app {a : List Int} {x : Int} : ∀ {b : List Int}, meetN a (b ++ [x]) = meetN a b + if x ∈ a then 1 else 0
  | [] => by simp [meetN]
  | y :: b => by simp only [List.cons_append, meetN, meetN_app (b := b)]; omega
theorem meetN_take_le {a : List Int} : ∀ (b : List Int) (i : Nat), meetN a (b.take i) ≤ b.length
  | [], i => by simp [meetN]
  | x :: b, 0 => by simp [meetN]
  | x :: b, i + 1 => by
    have := meetN_take_le (a := a) b i
    simp only [List.take_succ_cons, meetN, List.length_cons]
    split <;> omega
theorem PC.nodup {g : List (List Bool)} {l : List Int} (h : PC g l) : l.Nodup := by
  unfold List.Nodup
  exact h.2.imp fun {a b} h => by have := h.1; omega

theorem l01Byte_inl {st : St} {c : AV} {j : Nat} (h : Cur st c j) : Ok (L.inl i_spec_l01Byte [c] st) fun p => (∃ x : Int, p.1 = .int .i64 x ∧ 0 ≤ x ∧ x ≤ 255) ∧ CurS st p.2 c j := by
  obtain ⟨t, b, l, i, h, rfl, hj, H, hb, hi, hl⟩ := h
  rw [inl_spec_l01Byte]
  simp only [aNilchk, aFaddr, bind_some', Nat.zero_add, cur_ld2 H, aBin_mul, aBin_add]
  generalize IntKind.i64.wrap (IntKind.i64.wrap (h * 6364136223846793005) + 1442695040888963407) = h'
  simp only [cur_st2 H, bind_some']
  have H1 : (st.put j ⟨t, 3, [curV b (i : Int) h']⟩).H j = some ⟨t, 3, [curV b (i : Int) h']⟩ := put_H_eq
  obtain ⟨y1, e1⟩ := shr_ex h' 33
  obtain ⟨y2, e2⟩ := shr_ex h' 45
  have e1' : aBin .shr (.int .i64 h') (.int .u64 33) = some (.int .i64 y1) := e1
  have e2' : aBin .shr (.int .i64 h') (.int .u64 45) = some (.int .i64 y2) := e2
  obtain ⟨y3, e3⟩ : ∃ y3 : Int, aBin .xor (.int .i64 y1) (.int .i64 y2) = some (.int .i64 y3) := ⟨_, rfl⟩
  obtain ⟨y4, e4, b4, c4⟩ := and_ex y3 255 (by omega)
  have e4' : aBin .and (.int .i64 y3) (.int .i64 255) = some (.int .i64 y4) := e4
  simp only [cur_ld2 H1, cur_ld1 H1, cur_ld0 H1 (SlOf.one hb), e1', e2', e3, e4', bind_some', SlOf.len hb, aBin_lss]
  have F1 : ∀ k, k ≠ j → (st.put j ⟨t, 3, [curV b (i : Int) h']⟩).H k = st.H k := fun k hk => put_H_ne hk
  refine Ok.cnd (fun hlt => ?_) fun hge => ?_
  · obtain ⟨p, q1, q2⟩ := BY.get (st := st.put j ⟨t, 3, [curV b (i : Int) h']⟩) hb (List.getElem?_eq_getElem (by omega : i < l.length)) .i64
    simp only [q1, q2, aConv_int, aBin_add, bind_some']
    obtain ⟨y5, e5, b5, c5⟩ := and_ex (IntKind.i64.wrap (y4 + IntKind.i64.wrap (l[i]'(by omega)))) 255 (by omega)
    have e5' : aBin .and (.int .i64 (IntKind.i64.wrap (y4 + IntKind.i64.wrap (l[i]'(by omega))))) (.int .i64 255) = some (.int .i64 y5) := e5
    simp only [e5', cur_st1 H1, bind_some']
    rw [wrap_i (by omega)]
    refine ⟨_, rfl, ⟨y5, rfl, b5, by omega⟩, ⟨t, b, l, i + 1, h', rfl, hj, put_H_eq, hb, by omega, hl⟩, rfl, rfl, fun k hk => by rw [put_H_ne hk, put_H_ne hk]⟩
  · exact ⟨_, rfl, ⟨y4, rfl, b4, by omega⟩, ⟨t, b, l, i, h', rfl, hj, put_H_eq, hb, hi, hl⟩, rfl, rfl, F1⟩
theorem l01Below_inl {st : St} {c : AV} {j : Nat} {k : Int} (h : Cur st c j) (hk : 0 < k) (hk2 : k ≤ 1000000000) : Ok (L.inl i_spec_l01Below [c, .int .i64 k] st) fun p => (∃ x : Int, p.1 = .int .i64 x ∧ 0 ≤ x ∧ x < k) ∧ CurS st p.2 c j := by
  rw [inl_spec_l01Below]
  simp only [aBin_leq, bind_some']
  refine Ok.cnd (fun hf => absurd hf (by omega)) fun _ => ?_
  refine Ok.cnd (fun _ => ?_) fun _ => ?_
  · refine Ok.bind (l01Byte_inl h) ?_
    rintro ⟨_, s1⟩ ⟨⟨x, rfl, b1, c1⟩, S1⟩
    obtain ⟨y, e, b, c⟩ := rem_ex x k b1 hk
    simp only [e, bind_some']
    exact ⟨_, rfl, ⟨y, rfl, b, c⟩, S1⟩
  · refine Ok.bind (l01Byte_inl h) ?_
    rintro ⟨_, s1⟩ ⟨⟨x1, rfl, b1, c1⟩, S1⟩
    refine Ok.bind (l01Byte_inl S1.1) ?_
    rintro ⟨_, s2⟩ ⟨⟨x2, rfl, b2, c2⟩, S2⟩
    refine Ok.bind (l01Byte_inl S2.1) ?_
    rintro ⟨_, s3⟩ ⟨⟨x3, rfl, b3, c3⟩, S3⟩
    refine Ok.bind (l01Byte_inl S3.1) ?_
    rintro ⟨_, s4⟩ ⟨⟨x4, rfl, b4, c4⟩, S4⟩
    simp only [aBin_mul, aBin_add, bind_some']
    rw [wrap_i (x := x1 * 16777216) (by omega), wrap_i (x := x2 * 65536) (by omega), wrap_i (x := x3 * 256) (by omega), wrap_i (x := x1 * 16777216 + x2 * 65536) (by omega), wrap_i (x := x1 * 16777216 + x2 * 65536 + x3 * 256) (by omega), wrap_i (by omega)]
    obtain ⟨y, e, b, c⟩ := rem_ex (x1 * 16777216 + x2 * 65536 + x3 * 256 + x4) k (by omega) hk
    simp only [e, bind_some']
    exact ⟨_, rfl, ⟨y, rfl, b, c⟩, ((S1.trans S2).trans S3).trans S4⟩
theorem l01Once_inl {st : St} {c : AV} {j : Nat} {k : Int} (h : Cur st c j) (hk : 0 < k) (hk2 : k ≤ 1000000000) : Ok (L.inl i_spec_l01Once [c, .int .i64 k] st) fun p => (∃ b : Bool, p.1 = .bool b) ∧ CurS st p.2 c j := by
  rw [inl_spec_l01Once]
  refine Ok.bind (l01Below_inl h hk hk2) ?_
  rintro ⟨_, s1⟩ ⟨⟨x, rfl, b1, c1⟩, S1⟩
  simp only [aBin_eql, bind_some']
  exact ⟨_, rfl, ⟨_, rfl⟩, S1⟩
/-- a new cursor -/
theorem l01New_inl {st : St} {v : AV} {l : List Int} (h : BY v l) (hl : l.length ≤ 1048576) : Ok (L.inl i_spec_l01New [v] st) fun p => Cur p.2 p.1 st.m ∧ p.2.m = st.m + 1 ∧ p.2.n = st.n + 1 ∧ ∀ i, i < st.m → p.2.H i = st.H i := by
  rw [inl_spec_l01New]
  simp only [SlOf.len h, bind_some', aBin_add]
  refine Ok.bind (P := fun r => ∃ x : Int, r = (.exit 0, [v, .undef, .int .i64 x], st))
    (Ok.loop (σ := Int) (Lp := fun i x => L.loop [0, 3, 4] [0, 2, 3] b_spec_l01New_1 [v, .int .i64 x, .int .i64 i] st) (I := fun _ _ => True) l.length ?_ ?_ l.length 0 _ (by omega) trivial) ?_
  · intro x _
    rw [loop_spec_l01New_1]
    simp only [SlOf.len h, bind_some', aBin_lss, cnd_dec, Int.lt_irrefl, if_false]
    exact ⟨_, rfl, x, rfl⟩
  · intro i x hi _ ih
    obtain ⟨p, q1, q2⟩ := BY.get (st := st) h (List.getElem?_eq_getElem hi) .i64
    rw [loop_spec_l01New_1]
    simp only [SlOf.len h, bind_some', aBin_lss, aBin_mul, aBin_add, q1, q2, aConv_int]
    refine Ok.cnd (fun _ => ?_) fun hf => absurd hf (by omega)
    refine Ok.cnd (fun _ => ?_) fun _ => ⟨_, rfl, x, rfl⟩
    obtain ⟨y, e, _⟩ := and_ex (IntKind.i64.wrap (IntKind.i64.wrap (IntKind.i64.wrap (x * 59) + IntKind.i64.wrap l[i]) + 7)) 1073741823 (by omega)
    have e' : aBin .and (.int .i64 (IntKind.i64.wrap (IntKind.i64.wrap (IntKind.i64.wrap (x * 59) + IntKind.i64.wrap l[i]) + 7))) (.int .i64 1073741823) = some (.int .i64 y) := e
    simp only [e', bind_some']
    rw [wrap_i (x := (i : Int) + 1) (by omega)]
    exact ih y trivial
  · rintro _ ⟨x, rfl⟩
    rw [k_spec_l01New_1i_0]
    have e : mkBuild [(0, 1, v), (2, 1, .int .i64 x)] zc_nii.cells = some [v, .int .i64 0, .int .i64 x] := by
      obtain ⟨es, g1, _⟩ := h
      rcases g1 with ⟨rfl, _⟩ | ⟨_, _, rfl⟩ <;> rfl
    simp only [e, bind_some']
    have hc : [v, .int .i64 0, .int .i64 x].all AV.one = true := by simp [SlOf.one h]; exact ⟨rfl, rfl⟩
    rw [mkNew_agg hc (by simp)]
    exact ⟨_, rfl, ⟨st.n, v, l, 0, x, rfl, Nat.lt_succ_self _, new_H _ _ _, h, Nat.zero_le _, hl⟩, rfl, rfl, fun i hi => new_H_ne (Nat.ne_of_lt hi)⟩

theorem Ok.copyI {β : Type} {st : St} {v : AV} {l : List Int} {K : AV × St → Option β} {Q : β → Prop} (h : IS v l) (hl : l.length ≤ 4294967296)
    (k : ∀ w st', AccI st.n st' w l → st.m ≤ st'.m → st.n ≤ st'.n → (∀ i, i < st.m → st'.H i = st.H i) → (∀ q, isAt w q → st.m ≤ q) → Ok (K (w, st')) Q) : Ok ((aApp 1 .nils v st).bind K) Q := by
  obtain ⟨es, h1, h2⟩ := h
  obtain ⟨v', st', e, g1, g2, g3, g4, g5⟩ := (Acc.nil (n0 := st.n) (s := 1) (st := st)).app h1.arr (Nat.le_refl _) (by rw [h2.length]; simpa using hl)
  rw [e]
  have nat : ∀ i, ¬ isAt .nils i := fun i hi => by obtain ⟨_, _, _, _, e⟩ := hi; cases e
  refine k v' st' ⟨es, g1, h2⟩ g2 (by omega) (fun i hi => g4 i hi (nat i)) fun q hq => (g5 q hq).resolve_left (nat q)

theorem Ok.pushRow' {β : Type} {n0 n1 : Nat} {st : St} {v w : AV} {row : List Bool} {rows : List (List Bool)} {K : AV × St → Option β} {Q : β → Prop} (h : AccBSS n0 st v rows) (hw : AccB n1 st w row) (hn : n0 ≤ n1) (ht : ∀ q t s off len, v = .lsl q t s off len → t < n1) (hd : ∀ q, isAt v q → ¬ isAt w q) (hn1 : n1 ≤ st.n) (hl : rows.length < 4294967296)
    (k : ∀ v' st', AccBSS n0 st' v' (rows ++ [row]) → st.m ≤ st'.m → st.n ≤ st'.n → (∀ k t s es, k < st.m → s ≠ 1 → st.H k = some ⟨t, s, es⟩ → st'.H k = st.H k) → Ok (K (v', st')) Q) :
    Ok (mkLit 1 1 .nils [(0, w)] st fun y s2 => (aApp 1 v y s2).bind K) Q := by
  obtain ⟨j, t, es, Ts, h1, h2, h3, h4, h5, h6, h7⟩ := h
  have hj : isAt v j := ⟨_, _, _, _, h1.1⟩
  obtain ⟨T, l1, l2, l3⟩ := hw.leaf (hd j hj)
  have ho := one_stor l1.one
  rw [lit1 (s := 1) (z := .nils) rfl rfl (by omega) ho.1 ho.2]
  have hy : Arr (st.new 1 [w]) 1 (.lsl st.m st.n 1 0 1) [w] := (Loc.new (st := st) (s := 1) (es := [w])).arr
  obtain ⟨e1, e2⟩ := hy.elems
  have hlen : es.length = rows.length := by rw [h6.length, h7.length]
  have hL : Loc (st.new 1 [w]) j t 1 v es := h1.frame (new_H_ne (Nat.ne_of_lt h2))
  rw [hL.app e1 e2 (by simp; omega)]
  have htt := ht j t 1 0 es.length h1.1
  refine k _ _ ⟨j, st.n + 1, es ++ [w], Ts ++ [T], app_loc rfl, by simp only [put_m, new_m]; omega, by omega, by simp only [new_n]; omega, ?_, ?_, h7.snoc l3⟩ (Nat.le_succ _) (by simp only [new_n]; omega) ?_
  · exact (NewL.snoc (h5.wide (Nat.le_refl _) (Nat.le_refl _) (Nat.le_of_lt htt)) l2 hn hn1).wide (Nat.le_refl _) (Nat.le_refl _) (Nat.le_succ _)
  · refine All2.snoc ?_ ?_
    · exact h6.mono fun a b hl => hl.frame (fun i hi hne _ => by
        show (St.put (st.new 1 [w]) j _).H i = _
        rw [put_H_ne hne, new_H_ne (Nat.ne_of_lt hi)]) (by simp only [put_m, new_m]; omega)
    · exact l1.frame (fun i hi hne _ => by
        show (St.put (st.new 1 [w]) j _).H i = _
        rw [put_H_ne hne, new_H_ne (Nat.ne_of_lt hi)]) (by simp only [put_m, new_m]; omega)
  · intro i t2 s es2 hi hs he
    show (St.put (st.new 1 [w]) j _).H i = _
    have : i ≠ j := by rintro rfl; rw [h1.2] at he; cases he; exact hs rfl
    rw [put_H_ne this, new_H_ne (Nat.ne_of_lt hi)]
theorem Cur.keep {st st' : St} {c : AV} {j : Nat} (h : Cur st c j) (k : ∀ k t s es, k < st.m → s ≠ 1 → st.H k = some ⟨t, s, es⟩ → st'.H k = st.H k) (hm : st.m ≤ st'.m) : Cur st' c j := by
  have h' := h
  obtain ⟨t, b, l, i, x, h1, h2, h3, _⟩ := h'
  exact h.frame (k j t 3 _ h2 (by omega) h3) hm
theorem AccBSS.upto {n0 : Nat} {st : St} {v : AV} {rows : List (List Bool)} (h : AccBSS n0 st v rows) {i : Nat} (hi : i ≤ rows.length) : ∃ v', aSlc 1 v none (some (.int .i64 (i : Int))) = some v' ∧ aLen v' = some (.int .i64 (i : Int)) := by
  obtain ⟨j, t, es, Ts, h1, h2, h3, h4, h5, h6, h7⟩ := h
  have hlen : es.length = rows.length := by rw [h6.length, h7.length]
  obtain ⟨v', a, b⟩ := h1.arr.slc (lo := none) (aBound_int (k := .i64) (i := i) (by omega)) (a := 0) rfl (by omega) (by omega)
  refine ⟨v', a, ?_⟩
  rw [b.len]; simp; omega
theorem AccBSS.len {n0 : Nat} {st : St} {v : AV} {rows : List (List Bool)} (h : AccBSS n0 st v rows) : aLen v = some (.int .i64 (rows.length : Int)) := by
  obtain ⟨j, t, es, Ts, h1, h2, h3, h4, h5, h6, h7⟩ := h
  rw [h1.arr.len, h6.length, h7.length]
theorem make_row {st : St} {n : Nat} : AccB st.n (st.new 1 (List.replicate n (.bool false))) (.lsl st.m st.n 1 0 n) (List.replicate n false) := by
  refine ⟨List.replicate n (.bool false), .inr ⟨st.m, st.n, ⟨by simp, new_H _ _ _⟩, Nat.lt_succ_self _, Nat.le_refl _, Nat.lt_succ_self _⟩, ?_⟩
  induction n with
  | zero => rfl
  | succ n ih => exact ⟨false, _, rfl, rfl, ih⟩
theorem GoodG.zero (n : Nat) : GoodG n (List.replicate n (List.replicate n false)) := by
  have : ∀ u v, at2 (List.replicate n (List.replicate n false)) u v = false := by
    intro u v
    unfold at2
    by_cases h : u < n
    · rw [List.getElem?_replicate, if_pos h, Option.bind_some, List.getElem?_replicate]; split <;> rfl
    · rw [List.getElem?_replicate, if_neg h]; rfl
  exact ⟨by simp, fun r hr => by rw [List.eq_of_mem_replicate hr]; simp, fun u v => ⟨by rw [this, this], this u u⟩⟩
/-- what a drawn graph is in memory -/
def DrawQ (n0 m0 : Nat) (c : AV) (j : Nat) (p : AV × St) : Prop := ∃ g n, GoodG n g ∧ n ≤ 12 ∧ AccBSS n0 p.2 p.1 g ∧ Cur p.2 c j ∧ m0 ≤ p.2.m ∧ n0 ≤ p.2.n
theorem draw_fill {n0 m0 : Nat} {st : St} {c v : AV} {j n : Nat} {g : List (List Bool)} (hn : n ≤ 12) (hG : GoodG n g) (hA : AccBSS n0 st v g) (hc : Cur st c j) (hm : m0 ≤ st.m) (hnn : n0 ≤ st.n) :
    Ok ((L.loop [0, 4, 25, 26] [2, 4] b_spec_l22Draw_2 [c, v, .int .i64 (n : Int), .int .i64 0] st).bind k_spec_l22Draw_2i) (DrawQ n0 m0 c j) := by
  refine Ok.bind (P := fun r => ∃ st g, r = (.exit 2, [.undef, v], st) ∧ GoodG n g ∧ AccBSS n0 st v g ∧ Cur st c j ∧ m0 ≤ st.m ∧ n0 ≤ st.n)
    (Ok.loop (σ := St) (Lp := fun i s => L.loop [0, 4, 25, 26] [2, 4] b_spec_l22Draw_2 [c, v, .int .i64 (n : Int), .int .i64 i] s) (I := fun _ s => ∃ g, GoodG n g ∧ AccBSS n0 s v g ∧ Cur s c j ∧ m0 ≤ s.m ∧ n0 ≤ s.n) n ?_ ?_ n 0 st (by omega) ⟨g, hG, hA, hc, hm, hnn⟩) ?_
  · rintro st ⟨g, hG, hA, hc, hm, hnn⟩
    rw [loop_spec_l22Draw_2]
    simp only [bind_some', aBin_lss, cnd_dec, Int.lt_irrefl, if_false]
    exact ⟨_, rfl, st, g, rfl, hG, hA, hc, hm, hnn⟩
  · rintro i st hi ⟨g, hG, hA, hc, hm, hnn⟩ ih
    obtain ⟨v', s1, s2⟩ := hA.upto (i := i) (by rw [hG.1]; omega)
    rw [loop_spec_l22Draw_2]
    simp only [bind_some', aBin_lss, cnd_dec, s1, s2]
    rw [if_pos (by omega)]
    refine Ok.bind (P := fun r => ∃ st g, r = (.exit 4, [c, .undef, v, .int .i64 (n : Int), .int .i64 (i : Int)], st) ∧ GoodG n g ∧ AccBSS n0 st v g ∧ Cur st c j ∧ m0 ≤ st.m ∧ n0 ≤ st.n)
      (Ok.loop (σ := St) (Lp := fun k s => L.loop [0, 4, 6, 25, 26, 32, 33] [0, 2, 4, 25, 26] b_spec_l22Draw_3 [c, v, .int .i64 (i : Int), .int .i64 (n : Int), .int .i64 (i : Int), .int .i64 (i : Int), .int .i64 k] s) (I := fun _ s => ∃ g, GoodG n g ∧ AccBSS n0 s v g ∧ Cur s c j ∧ m0 ≤ s.m ∧ n0 ≤ s.n) i ?_ ?_ i 0 st (by omega) ⟨g, hG, hA, hc, hm, hnn⟩) ?_
    · rintro st ⟨g, hG, hA, hc, hm, hnn⟩
      rw [loop_spec_l22Draw_3]
      simp only [bind_some', aBin_lss, cnd_dec, Int.lt_irrefl, if_false]
      exact ⟨_, rfl, st, g, rfl, hG, hA, hc, hm, hnn⟩
    · rintro k st hk ⟨g, hG, hA, hc, hm, hnn⟩ ih2
      rw [loop_spec_l22Draw_3]
      simp only [bind_some', aBin_lss, cnd_dec]
      rw [if_pos (by omega)]
      refine Ok.bind (l01Once_inl hc (by omega) (by omega)) ?_
      rintro ⟨_, st1⟩ ⟨⟨b, rfl⟩, S⟩
      dsimp only at S ⊢
      have hA1 := hA.ones (CurS.ones hc S)
      obtain ⟨ri, rj, a1, a2, a3, a4, a5⟩ := hG.set hi hk (!b)
      obtain ⟨w1, p1, q1, st2, u1, u2, u3, u4, u5, u6, u7, u8⟩ := hA1.store a1 a2 (!b)
      obtain ⟨w2, p2, q2, st3, v1, v2, v3, v4, v5, v6, v7, v8⟩ := u5.store a3 a4 (!b)
      simp only [aUn_not, bind_some', u1, u2, u3, u4, v1, v2, v3, v4, aBin_add]
      rw [wrap_i (by omega)]
      have hc2 := (S.1.keep (fun k t s es _ hs he => u8 k t s es hs he) (by omega)).keep (fun k t s es _ hs he => v8 k t s es hs he) (show st2.m ≤ st3.m by omega)
      refine ih2 st3 ⟨_, a5, v5, hc2, ?_, ?_⟩
      · have := S.2.1; omega
      · have := S.2.2.1; omega
    · rintro _ ⟨st, g, rfl, hG, hA, hc, hm, hnn⟩
      rw [k_spec_l22Draw_3_4]
      simp only [aBin_add, bind_some']
      rw [wrap_i (by omega)]
      exact ih st ⟨g, hG, hA, hc, hm, hnn⟩
  · rintro _ ⟨st, g, rfl, hG, hA, hc, hm, hnn⟩
    rw [k_spec_l22Draw_2i_2]
    exact ⟨_, rfl, g, n, hG, hn, hA, hc, hm, hnn⟩
theorem draw_tail {n0 m0 : Nat} {st : St} {c v : AV} {j n : Nat} (hn : n ≤ 12) (hA : AccBSS n0 st v []) (hc : Cur st c j) (hm : m0 ≤ st.m) (hnn : n0 ≤ st.n) :
    Ok ((L.loop [0, 3, 4, 5] [0, 2, 4] b_spec_l22Draw_1 [c, .int .i64 (n : Int), v, .int .i64 0] st).bind k_spec_l22Draw_1i) (DrawQ n0 m0 c j) := by
  refine Ok.bind (P := fun r => ∃ v st, r = (.exit 0, [c, .undef, v], st) ∧ AccBSS n0 st v (List.replicate n (List.replicate n false)) ∧ Cur st c j ∧ m0 ≤ st.m ∧ n0 ≤ st.n)
    (Ok.loop (σ := AV × St) (Lp := fun i s => L.loop [0, 3, 4, 5] [0, 2, 4] b_spec_l22Draw_1 [c, .int .i64 (n : Int), s.1, .int .i64 i] s.2) (I := fun i s => AccBSS n0 s.2 s.1 (List.replicate i (List.replicate n false)) ∧ Cur s.2 c j ∧ m0 ≤ s.2.m ∧ n0 ≤ s.2.n) n ?_ ?_ n 0 (v, st) (by omega) ⟨hA, hc, hm, hnn⟩) ?_
  · rintro ⟨v, st⟩ ⟨hA, hc, hm, hnn⟩
    rw [loop_spec_l22Draw_1]
    simp only [bind_some', aBin_lss, cnd_dec, Int.lt_irrefl, if_false]
    exact ⟨_, rfl, v, st, rfl, hA, hc, hm, hnn⟩
  · rintro i ⟨v, st⟩ hi ⟨hA, hc, hm, hnn⟩ ih
    dsimp only at hA hc hm hnn ⊢
    rw [loop_spec_l22Draw_1]
    simp only [bind_some', aBin_lss, cnd_dec]
    rw [if_pos (by omega), mkMake_ok (s := 1) (z := .bool false) (by omega) rfl rfl (by omega)]
    have hA1 : AccBSS n0 (st.new 1 (List.replicate n (.bool false))) v (List.replicate i (List.replicate n false)) := hA.frame (fun k hk => new_H_ne (Nat.ne_of_lt hk)) (Nat.le_succ _) (Nat.le_succ _)
    refine Ok.pushRow' hA1 (make_row (n := n)) hnn hA.tag (fun q hq hw => ?_) (Nat.le_succ _) (by simp; omega) fun v' st' k1 k2 k3 k4 => ?_
    · have := hA.lt hq
      obtain ⟨_, _, _, _, e⟩ := hw
      cases e; omega
    · have k2' : st.m + 1 ≤ st'.m := k2
      have k3' : st.n + 1 ≤ st'.n := k3
      simp only [aBin_add, bind_some']
      rw [wrap_i (by omega)]
      refine ih (v', st') ⟨?_, ?_, (show m0 ≤ st'.m by omega), (show n0 ≤ st'.n by omega)⟩
      · rw [List.replicate_succ']; exact k1
      · exact (hc.frame (st' := st.new 1 (List.replicate n (.bool false))) (by obtain ⟨_, _, _, _, _, _, h, _⟩ := hc; exact new_H_ne (Nat.ne_of_lt h)) (Nat.le_succ _)).keep k4 k2
  · rintro _ ⟨v, st, rfl, hA, hc, hm, hnn⟩
    rw [k_spec_l22Draw_1i_0, hA.len, bind_some', List.length_replicate]
    exact draw_fill hn (GoodG.zero n) hA hc hm hnn
theorem l22Draw_inl {st : St} {c : AV} {j : Nat} (hc : Cur st c j) : Ok (L.inl i_spec_l22Draw [c] st) (DrawQ st.n st.m c j) := by
  rw [inl_spec_l22Draw]
  refine Ok.bind (l01Below_inl hc (by omega) (by omega)) ?_
  rintro ⟨_, s1⟩ ⟨⟨x, rfl, b1, c1⟩, S1⟩
  dsimp only at S1 ⊢
  refine Ok.bind (l01Once_inl S1.1 (by omega) (by omega)) ?_
  rintro ⟨_, s2⟩ ⟨⟨b, rfl⟩, S2⟩
  dsimp only at S2 ⊢
  have m2 : s2.m = st.m := S2.2.1.trans S1.2.1
  have n2 : s2.n = st.n := S2.2.2.1.trans S1.2.2.1
  have hA : AccBSS st.n (s2.new 1 []) (.lsl s2.m s2.n 1 0 0) [] := AccBSS.lit (by omega)
  have hc2 : Cur (s2.new 1 []) c j := S2.1.frame (by obtain ⟨_, _, _, _, _, _, h, _⟩ := S2.1; exact new_H_ne (Nat.ne_of_lt h)) (Nat.le_succ _)
  refine Ok.cndb (fun _ => ?_) fun _ => ?_
  · rw [lit0_n]
    exact draw_tail (n := 12) (by omega) hA hc2 (by simp only [new_m]; omega) (by simp only [new_n]; omega)
  · rw [lit0_n, show x = ((x.toNat : Nat) : Int) by omega]
    exact draw_tail (n := x.toNat) (by omega) hA hc2 (by simp only [new_m]; omega) (by simp only [new_n]; omega)
theorem MakeGraph_spec {v : AV} {l : List Int} (h : BY v l) (hl : l.length ≤ 1048576) (n : Nat) : Ok (L.call i_spec_MakeGraph [v] n) fun p => n ≤ p.2 ∧ ∃ g, graphM g = true ∧ BSS p.1 g ∧ New 2 n p.2 p.1 := by
  rw [call_spec_MakeGraph]
  refine Ok.bind (l01New_inl (st := st0 n) h hl) ?_
  rintro ⟨c, s1⟩ ⟨k1, k2, k3, _⟩
  dsimp only at k1 k2 k3 ⊢
  refine Ok.bind (l22Draw_inl k1) ?_
  rintro ⟨r, s2⟩ ⟨g, m, g1, g2, g3, g4, g5, g6⟩
  dsimp only at g3 g6 ⊢
  have n1 : s1.n = n + 1 := k3
  obtain ⟨T, t1, t2, t3⟩ := g3.fin
  rw [t1]
  exact ⟨_, rfl, (show n ≤ s2.n by omega), g, g1.graph g2, t2, t3.wide (Nat.le_refl _) (by omega) (Nat.le_refl _)⟩

def ISS (v : AV) (l : List (List Int)) : Prop := SlOf 1 IS v l
theorem AccI.leaf {n1 : Nat} {st : St} {w : AV} {l : List Int} (h : AccI n1 st w l) {j : Nat} (hj : ¬ isAt w j) : ∃ T, Leaf st j w T ∧ New 1 n1 st.n T ∧ IS T l := by
  obtain ⟨es, h, g⟩ := h
  obtain ⟨f1, f2, f3⟩ := ri_flat g
  rcases h with ⟨rfl, rfl⟩ | ⟨j', t, h, h1, h2, h3⟩
  · exact ⟨.nils, .inl ⟨rfl, rfl⟩, New.nils, ⟨[], .inl ⟨rfl, rfl⟩, g⟩⟩
  · refine ⟨.sl t 0 1 es, .inr ⟨j', t, es, h.1, h.2, h1, fun e => hj ⟨t, 1, 0, es.length, by rw [h.1, e]⟩, rfl, f3⟩, New.sl (NewL.flat f1 f2) h2 h3 (by omega), ⟨es, .inr ⟨_, _, rfl⟩, g⟩⟩
def AccISS (n0 : Nat) (st : St) (v : AV) (rows : List (List Int)) : Prop :=
  ∃ j t es Ts, Loc st j t 1 v es ∧ j < st.m ∧ n0 ≤ t ∧ t < st.n ∧ NewL 1 n0 t Ts ∧ All2 (Leaf st j) es Ts ∧ All2 IS Ts rows
theorem AccISS.lit {n0 : Nat} {st : St} (h : n0 ≤ st.n) : AccISS n0 (st.new 1 []) (.lsl st.m st.n 1 0 0) [] :=
  ⟨st.m, st.n, [], [], ⟨rfl, new_H _ _ _⟩, Nat.lt_succ_self _, h, Nat.lt_succ_self _, NewL.nil, rfl, rfl⟩
theorem AccISS.frame {n0 : Nat} {st st' : St} {v : AV} {rows : List (List Int)} (h : AccISS n0 st v rows) (k : ∀ i, i < st.m → st'.H i = st.H i) (hm : st.m ≤ st'.m) (hn : st.n ≤ st'.n) : AccISS n0 st' v rows := by
  obtain ⟨j, t, es, Ts, h1, h2, h3, h4, h5, h6, h7⟩ := h
  exact ⟨j, t, es, Ts, h1.frame (k j h2), by omega, h3, by omega, h5, h6.mono fun a b hl => hl.frame (fun i hi _ _ => k i hi) hm, h7⟩
theorem AccISS.lt {n0 : Nat} {st : St} {v : AV} {rows : List (List Int)} (h : AccISS n0 st v rows) {q : Nat} (hq : isAt v q) : q < st.m := by
  obtain ⟨j, t, es, Ts, h1, h2, _⟩ := h
  obtain ⟨_, _, _, _, e⟩ := hq
  rw [h1.1] at e; cases e; exact h2
/-- one row more: the row's array was made later than all else -/
theorem Ok.pushRowI {β : Type} {n0 n1 : Nat} {st : St} {v w : AV} {row : List Int} {rows : List (List Int)} {K : AV × St → Option β} {Q : β → Prop} (h : AccISS n0 st v rows) (hw : AccI n1 st w row) (hn : n0 ≤ n1) (ht : ∀ q t s off len, v = .lsl q t s off len → t < n1) (hd : ∀ q, isAt v q → ¬ isAt w q) (hn1 : n1 ≤ st.n) (hl : rows.length < 4294967296)
    (k : ∀ v' st', AccISS n0 st' v' (rows ++ [row]) → st.m ≤ st'.m → st.n ≤ st'.n → (∀ q t s off len, v' = .lsl q t s off len → t < st'.n) → Ok (K (v', st')) Q) :
    Ok (mkLit 1 1 .nils [(0, w)] st fun y s2 => (aApp 1 v y s2).bind K) Q := by
  obtain ⟨j, t, es, Ts, h1, h2, h3, h4, h5, h6, h7⟩ := h
  have hj : isAt v j := ⟨_, _, _, _, h1.1⟩
  obtain ⟨T, l1, l2, l3⟩ := hw.leaf (hd j hj)
  have ho := one_stor l1.one
  rw [lit1 (s := 1) (z := .nils) rfl rfl (by omega) ho.1 ho.2]
  have hy : Arr (st.new 1 [w]) 1 (.lsl st.m st.n 1 0 1) [w] := (Loc.new (st := st) (s := 1) (es := [w])).arr
  obtain ⟨e1, e2⟩ := hy.elems
  have hlen : es.length = rows.length := by rw [h6.length, h7.length]
  have hL : Loc (st.new 1 [w]) j t 1 v es := h1.frame (new_H_ne (Nat.ne_of_lt h2))
  rw [hL.app e1 e2 (by simp; omega)]
  have htt := ht j t 1 0 es.length h1.1
  refine k _ _ ⟨j, st.n + 1, es ++ [w], Ts ++ [T], app_loc rfl, by simp only [put_m, new_m]; omega, by omega, by simp only [new_n]; omega, ?_, ?_, h7.snoc l3⟩ (Nat.le_succ _) (by simp only [new_n]; omega) ?_
  · exact (NewL.snoc (h5.wide (Nat.le_refl _) (Nat.le_refl _) (Nat.le_of_lt htt)) l2 hn hn1).wide (Nat.le_refl _) (Nat.le_refl _) (Nat.le_succ _)
  · refine All2.snoc ?_ ?_
    · exact h6.mono fun a b hl => hl.frame (fun i hi hne _ => by
        show (St.put (st.new 1 [w]) j _).H i = _
        rw [put_H_ne hne, new_H_ne (Nat.ne_of_lt hi)]) (by simp only [put_m, new_m]; omega)
    · exact l1.frame (fun i hi hne _ => by
        show (St.put (st.new 1 [w]) j _).H i = _
        rw [put_H_ne hne, new_H_ne (Nat.ne_of_lt hi)]) (by simp only [put_m, new_m]; omega)
  · intro q t' s off len e; cases e; simp only [new_n]; omega
theorem AccISS.fin {n0 : Nat} {st : St} {v : AV} {rows : List (List Int)} (h : AccISS n0 st v rows) : ∃ T, resTup st v = some T ∧ ISS T rows ∧ New 2 n0 st.n T := by
  obtain ⟨j, t, es, Ts, ⟨e1, h1⟩, h2, h3, h4, h5, h6, h7⟩ := h
  refine ⟨.sl t 0 1 Ts, ?_, ⟨Ts, .inr ⟨_, _, rfl⟩, h7⟩, New.sl' h5 h3 h4 (by omega)⟩
  have hm : ∀ (es Ts : List AV), All2 (Leaf st j) es Ts → mapO (resD st 5) es = some Ts := by
    intro es
    induction es with
    | nil => intro Ts h; simp only [All2] at h; subst h; rfl
    | cons e es ih =>
      intro Ts h
      simp only [All2] at h
      obtain ⟨T, Ts, rfl, h, hs⟩ := h
      simp only [mapO, h.resD (d := 3), Option.bind_some, ih _ hs]
  rw [e1]
  show resOne st (resD st 5) (.lsl j t 1 0 es.length) = _
  simp only [resOne, get_H h1, Option.bind_some, Nat.zero_add, Nat.le_refl, if_true, List.drop_zero, List.take_length, hm es Ts h6]
theorem AccISS.tag {n0 : Nat} {st : St} {v : AV} {rows : List (List Int)} (h : AccISS n0 st v rows) : ∀ q t s off len, v = .lsl q t s off len → t < st.n := by
  obtain ⟨j, t, es, Ts, h1, h2, h3, h4, _⟩ := h
  intro q t' s off len e
  rw [h1.1] at e; cases e; exact h4
/-- the state inside a row -/
structure RowJ (n0 : Nat) (st : St) (v : AV) (w : AV) (st1 : St) (row : List Int) : Prop where
  acc : AccI st.n st1 w row
  n : st.n ≤ st1.n
  m : st.m ≤ st1.m
  at_ : ∀ q, isAt w q → st.m ≤ q
  same : ∀ i, i < st.m → st1.H i = st.H i
theorem RowJ.start {n0 : Nat} {st : St} {v : AV} : RowJ n0 st v (.lsl st.m st.n 1 0 0) (st.new 1 []) [] :=
  ⟨⟨[], .lit (Nat.le_refl _), rfl⟩, Nat.le_succ _, Nat.le_succ _, fun q hq => by obtain ⟨_, _, _, _, e⟩ := hq; cases e; exact Nat.le_refl _, fun i hi => new_H_ne (Nat.ne_of_lt hi)⟩
theorem RowJ.setN {n0 n' : Nat} {st st1 : St} {v w : AV} {row : List Int} (h : RowJ n0 st v w st1 row) (hn : st1.n ≤ n') : RowJ n0 st v w (st1.setN n') row := by
  obtain ⟨es, a, b⟩ := h.acc
  exact ⟨⟨es, a.setN hn, b⟩, Nat.le_trans h.n hn, h.m, h.at_, h.same⟩
theorem RowJ.push {β : Type} {n0 : Nat} {st st1 : St} {v w : AV} {row : List Int} {x : Int} {K : AV × St → Option β} {Q : β → Prop} (h : RowJ n0 st v w st1 row) (hl : row.length < 4294967296) (k : ∀ w' st', RowJ n0 st v w' st' (row ++ [x]) → Ok (K (w', st')) Q) :
    Ok (mkLit 1 1 (.int .i64 0) [(0, .int .i64 x)] st1 fun y s2 => (aApp 1 w y s2).bind K) Q := by
  refine Ok.pushI h.acc h.n hl fun w' st' h1 h2 h3 h4 h5 => k w' st' ⟨h1, Nat.le_trans h.n h3, Nat.le_trans h.m h2, fun q hq => ?_, fun i hi => ?_⟩
  · rcases h5 q hq with g | g
    · exact h.at_ q g
    · exact Nat.le_trans h.m g
  · rw [h4 i (Nat.lt_of_lt_of_le hi h.m) fun hq => by have := h.at_ i hq; omega]; exact h.same i hi
theorem RowJ.close {β : Type} {n0 : Nat} {st st1 : St} {v w : AV} {row : List Int} {rows : List (List Int)} {K : AV × St → Option β} {Q : β → Prop} (h : RowJ n0 st v w st1 row) (hA : AccISS n0 st v rows) (hn : n0 ≤ st.n) (hl : rows.length < 4294967296)
    (k : ∀ v' st', AccISS n0 st' v' (rows ++ [row]) → st.n ≤ st'.n → Ok (K (v', st')) Q) : Ok (mkLit 1 1 .nils [(0, w)] st1 fun y s2 => (aApp 1 v y s2).bind K) Q :=
  Ok.pushRowI (hA.frame h.same h.m h.n) h.acc hn hA.tag (fun q hq hw => by have := h.at_ q hw; have := hA.lt hq; omega) h.n hl fun v' st' h1 _ h3 _ => k v' st' h1 (Nat.le_trans h.n h3)

theorem vertexSets_ok {k : Nat} (hk : k ≤ 12) (n : Nat) : Ok (L.call i_impl_vertexSets [.int .i64 (k : Int)] n) fun p => n ≤ p.2 ∧ ISS p.1 (vsP k (2 ^ k)) ∧ New 2 n p.2 p.1 := by
  have hp : 2 ^ k ≤ 2 ^ 12 := Nat.pow_le_pow_right (by omega) hk
  have hp2 : (2 : Nat) ^ 12 = 4096 := rfl
  rw [hp2] at hp
  rw [call_impl_vertexSets, lit0_n]
  simp only [aBin_shl1 k hk, bind_some', aBin_sub]
  generalize hPP : 2 ^ k = P at *
  have e0 : (P : Int) - 1 = (P : Int) - 1 - ((0 : Nat) : Int) := by omega
  rw [wrap_i (by omega), e0]
  refine Ok.bind (P := fun r => ∃ v st, r = (.exit 0, [.undef, v], st) ∧ AccISS n st v (vsP k P) ∧ n ≤ st.n)
    (Ok.loop (σ := AV × St) (Lp := fun t s => L.loop [0, 3, 4] [2, 3] b_impl_vertexSets_1 [.int .i64 k, s.1, .int .i64 ((P : Int) - 1 - (t : Int))] s.2) (I := fun t s => AccISS n s.2 s.1 (vsP k t) ∧ n ≤ s.2.n) P ?_ ?_ P 0 (.lsl (st0 n).m (st0 n).n 1 0 0, (st0 n).new 1 []) (by omega) ⟨AccISS.lit (Nat.le_refl _), Nat.le_succ _⟩) ?_
  · rintro ⟨v, st⟩ ⟨hA, hn⟩
    rw [loop_impl_vertexSets_1]
    simp only [bind_some', aBin_geq, cnd_dec]
    rw [if_neg (by omega)]
    exact ⟨_, rfl, v, st, rfl, hA, hn⟩
  · rintro t ⟨v, st⟩ ht ⟨hA, hn⟩ ih
    dsimp only at hA hn
    obtain ⟨m, hm⟩ : ∃ m : Nat, (P : Int) - 1 - (t : Int) = (m : Int) := ⟨P - 1 - t, by omega⟩
    have hm' : P - 1 - t = m := by omega
    rw [loop_impl_vertexSets_1]
    dsimp only
    rw [hm]
    simp only [bind_some', aBin_geq, cnd_dec]
    rw [if_pos (by omega), lit0_i]
    refine Ok.bind (P := fun r => ∃ w st1, r = (.exit 2, [.int .i64 k, .undef, v, .int .i64 m, w], st1) ∧ RowJ n st v w st1 (setP k m k))
      (Ok.loop (σ := AV × St) (Lp := fun j s => L.loop [0, 3, 4, 5, 6] [0, 2, 3, 4, 5] b_impl_vertexSets_2 [.int .i64 k, v, .int .i64 m, s.1, .int .i64 j] s.2) (I := fun j s => RowJ n st v s.1 s.2 (setP k m j)) k ?_ ?_ k 0 (.lsl st.m st.n 1 0 0, st.new 1 []) (by omega) RowJ.start) ?_
    · rintro ⟨w, st1⟩ hR
      rw [loop_impl_vertexSets_2]
      simp only [bind_some', aBin_lss, cnd_dec, Int.lt_irrefl, if_false]
      exact ⟨_, rfl, w, st1, rfl, hR⟩
    · rintro j ⟨w, st1⟩ hj hR ih2
      dsimp only at hR
      have hd : m / 2 ^ (k - 1 - j) ≤ m := Nat.div_le_self _ _
      rw [loop_impl_vertexSets_2]
      simp only [bind_some', aBin_lss, aBin_sub, cnd_dec]
      rw [if_pos (by omega), wrap_i (x := (k : Int) - 1) (by omega), wrap_i (x := (k : Int) - 1 - j) (by omega), show (k : Int) - 1 - j = ((k - 1 - j : Nat) : Int) by omega, aBin_shr m (k - 1 - j) (by omega)]
      obtain ⟨q, hq⟩ : ∃ q, m / 2 ^ (k - 1 - j) = q := ⟨_, rfl⟩
      rw [hq] at hd
      rw [hq]
      simp only [bind_some']
      rw [aBin_and1 _ (by omega) (by omega)]
      simp only [bind_some', aBin_eql, aBin_add]
      have hl := setP_length k m j
      refine Ok.cnd (fun hb => ?_) fun hb => ?_
      · have hb' : bitOn k m j = true := by simp only [bitOn, decide_eq_true_iff, hq]; omega
        refine hR.push (by omega) fun w' st' hR' => ?_
        simp only [bind_some']
        rw [wrap_i (by omega)]
        refine ih2 (w', st') ?_
        rw [setP_succ, if_pos hb']; exact hR'
      · have hb' : ¬ bitOn k m j = true := by simp only [bitOn, decide_eq_true_iff, hq]; omega
        rw [wrap_i (by omega)]
        refine ih2 (w, st1) ?_
        rw [setP_succ, if_neg hb', List.append_nil]; exact hR
    · rintro _ ⟨w, st1, rfl, hR⟩
      have hpl := vsP_length k t
      rw [k_impl_vertexSets_2_2]
      refine hR.close hA hn (by omega) fun v' st' k1 k2 => ?_
      simp only [aBin_sub, bind_some']
      rw [wrap_i (by omega), show (m : Int) - 1 = (P : Int) - 1 - ((t + 1 : Nat) : Int) by omega]
      refine ih (v', st') ⟨?_, Nat.le_trans hn k2⟩
      rw [vsP_succ, hPP, hm']; exact k1
  · rintro _ ⟨v, st, rfl, hA, hn⟩
    obtain ⟨T, t1, t2, t3⟩ := hA.fin
    rw [k_impl_vertexSets_1_0, t1]
    exact ⟨_, rfl, hn, t2, t3⟩

theorem IsGraph_impl_call {x0 : AV} {l : List (List Bool)} (h0 : BSS x0 l) (hl : l.length ≤ 1048576) (hr : ∀ r ∈ l, r.length ≤ 1048576) (n : Nat) : L.call i_impl_IsGraph [x0] n = some (.bool (graphM l), n) := by
  rw [call_impl_IsGraph, SlOf.len h0]
  simp only [bind_some', aBin_gtr, cnd_dec]
  by_cases h12 : (12 : Int) < l.length
  · rw [if_pos h12]
    have : graphM l = false := by unfold graphM; simp; intro h; omega
    rw [this]; simp only [resTup_bool, bind_some', n_st0]
  · rw [if_neg h12]
    have A := loop_all (fun i => L.loop [0, 3, 14, 15, 16] [0, 2] b_impl_IsGraph_1 [x0, .int .i64 l.length, x0, .int .i64 l.length, .int .i64 i] (st0 n)) (lenOk l) l.length (.exit 0, [x0, .undef], st0 n) (.ret, [x0, .bool false], st0 n)
      (by
        rw [loop_impl_IsGraph_1]
        simp only [bind_some', aBin_lss, cnd_dec, Int.lt_irrefl, if_false])
      (fun i hi => by
        obtain ⟨e1, p1, g1⟩ := SlOf.idx h0 (List.getElem?_eq_getElem hi)
        have := hr _ (List.getElem_mem hi)
        rw [loop_impl_IsGraph_1]
        simp only [bind_some', aBin_lss, cnd_dec, g1, load_one (SlOf.one p1), SlOf.len p1, aBin_neq, aBin_add]
        rw [if_pos (by omega), wrap64 (by omega) (by omega)]
        simp only [lenOk, List.getElem?_eq_getElem hi, Option.map_some, Option.some.injEq, decide_eq_true_iff, ite_not, Int.ofNat_inj]
        rfl)
      l.length 0 (by omega)
    rw [show ((0 : Nat) : Int) = 0 from rfl] at A
    rw [A]
    by_cases hA : allF (lenOk l) 0 l.length = true
    · rw [if_pos hA, bind_some', k_impl_IsGraph_1_0, SlOf.len h0, bind_some']
      have hrow : ∀ i, i < l.length → ∃ r, l[i]? = some r ∧ r.length = l.length := fun i hi => by
        have := allF_iff.1 hA i (Nat.zero_le i) (by omega)
        simp only [lenOk, decide_eq_true_iff, List.getElem?_eq_getElem hi, Option.map_some, Option.some.injEq] at this
        exact ⟨l[i], List.getElem?_eq_getElem hi, this⟩
      have B := loop_all (fun i => L.loop [0, 25, 26, 27] [2] b_impl_IsGraph_2 [x0, x0, .int .i64 l.length, .int .i64 i] (st0 n)) (rowOk l) l.length (.exit 2, [.undef], st0 n) (.ret, [.bool false], st0 n)
        (by
          rw [loop_impl_IsGraph_2]
          simp only [bind_some', aBin_lss, cnd_dec, Int.lt_irrefl, if_false])
        (fun i hi => by
          obtain ⟨ri, hri, hril⟩ := hrow i hi
          obtain ⟨e1, p1, g1⟩ := SlOf.idx h0 hri
          rw [loop_impl_IsGraph_2]
          simp only [bind_some', aBin_lss, cnd_dec, g1, load_one (SlOf.one p1), SlOf.len p1]
          rw [if_pos (by omega)]
          have C := loop_all (fun j => L.loop [0, 6, 25, 26, 27, 32, 33, 34] [0, 2, 25, 26, 27] b_impl_IsGraph_3 [x0, .int .i64 i, x0, .int .i64 l.length, .int .i64 i, e1, .int .i64 ri.length, .int .i64 j] (st0 n)) (cellOk l i) l.length
            (.exit 4, [x0, .undef, x0, .int .i64 l.length, .int .i64 i], st0 n) (.ret, [x0, .bool false, x0, .int .i64 l.length, .int .i64 i], st0 n)
            (by
              rw [loop_impl_IsGraph_3, hril]
              simp only [bind_some', aBin_lss, cnd_dec, Int.lt_irrefl, if_false])
            (fun j hj => by
              obtain ⟨rj, hrj, hrjl⟩ := hrow j hj
              obtain ⟨e2, p2, g2⟩ := SlOf.idx h0 hrj
              obtain ⟨e3, rfl, g3⟩ := SlOf.idx p1 (List.getElem?_eq_getElem (by omega : j < ri.length))
              obtain ⟨e4, rfl, g4⟩ := SlOf.idx p2 (List.getElem?_eq_getElem (by omega : i < rj.length))
              rw [loop_impl_IsGraph_3, hril]
              simp only [bind_some', aBin_lss, cnd_dec, g2, g3, g4, load_b, load_one (SlOf.one p2), aBin_eql, aBinb_neq, aBin_add]
              rw [if_pos (by omega), wrap64 (by omega) (by omega)]
              simp only [cnd_bool]
              have a1 : at2 l i j = ri[j] := by simp [at2, hri, List.getElem?_eq_getElem (by omega : j < ri.length)]
              have a2 : at2 l j i = rj[i] := by simp [at2, hrj, List.getElem?_eq_getElem (by omega : i < rj.length)]
              simp only [cellOk, a1, a2, Int.ofNat_inj]
              cases ri[j] <;> cases rj[i] <;> by_cases hij : i = j <;> simp [hij])
            l.length 0 (by omega)
          rw [show ((0 : Nat) : Int) = 0 from rfl] at C
          rw [C]
          by_cases hc : rowOk l i = true
          · have hc' : allF (cellOk l i) 0 l.length = true := hc
            rw [if_pos hc, if_pos hc', bind_some', k_impl_IsGraph_3_4]
            simp only [aBin_add, bind_some']
            rw [wrap64 (by omega) (by omega)]; rfl
          · have hc' : ¬ allF (cellOk l i) 0 l.length = true := hc
            rw [if_neg hc, if_neg hc', bind_some', k_impl_IsGraph_3_ret])
        l.length 0 (by omega)
      rw [show ((0 : Nat) : Int) = 0 from rfl] at B
      rw [B]
      have hle : decide (l.length ≤ 12) = true := by simp; omega
      by_cases hB : allF (rowOk l) 0 l.length = true
      · rw [if_pos hB, bind_some', k_impl_IsGraph_2_2]
        simp only [graphM, hA, hB, hle, resTup_bool, bind_some', n_st0, Bool.and_self]
      · rw [if_neg hB, bind_some', k_impl_IsGraph_2_ret]
        simp only [graphM, hA, hB, hle, resTup_bool, bind_some', n_st0, Bool.and_false]
    · rw [if_neg hA, bind_some', k_impl_IsGraph_1_ret]
      simp only [graphM, hA, resTup_bool, bind_some', n_st0, Bool.and_false, Bool.false_and]


theorem allAdjacent_call {x0 x1 : AV} {g : List (List Bool)} {l : List Int} (h0 : BSS x0 g) (h1 : IS x1 l) (hg : graphM g = true) (hin : ∀ i, i < l.length → inR g.length (vt l i) = true) (hl1 : l.length ≤ 1048576) (n : Nat) :
    L.call i_impl_allAdjacent [x0, x1] n = some (.bool (adjAll g l), n) := by
  rw [call_impl_allAdjacent, SlOf.len h1, bind_some']
  obtain ⟨h12, _⟩ := graphM_rows hg
  have A := loop_all (fun i => L.loop [0, 1, 9, 10, 11] [4] b_impl_allAdjacent_1 [x0, x1, x1, .int .i64 l.length, .int .i64 i] (st0 n)) (fun i => allF (fun j => adjI g (vt l j) (vt l i)) 0 i) l.length (.exit 0, [.undef], st0 n) (.ret, [.bool false], st0 n)
    (by
      rw [loop_impl_allAdjacent_1]
      simp only [bind_some', aBin_lss, cnd_dec, Int.lt_irrefl, if_false])
    (fun i hi => by
      obtain ⟨e1, rfl, g1⟩ := SlOf.idx h1 (List.getElem?_eq_getElem hi)
      obtain ⟨x2, s1, s2⟩ := SlOf.upto h1 (k := .i64) (i := i) (by omega)
      have hlen : (l.take i).length = i := by simp; omega
      have hvt : vt l i = l[i] := by simp [vt, List.getElem?_eq_getElem hi]
      have hpi := hin i hi
      simp only [inR, decide_eq_true_iff, hvt] at hpi
      rw [loop_impl_allAdjacent_1]
      simp only [bind_some', aBin_lss, cnd_dec, g1, load_i, s1, SlOf.len s2, hlen]
      rw [if_pos (by omega)]
      have C := loop_all (fun j => L.loop [0, 1, 6, 9, 10, 11, 18, 19, 20] [0, 1, 4, 9, 10, 11] b_impl_allAdjacent_2 [x0, x1, .int .i64 l[i], x1, .int .i64 l.length, .int .i64 i, x2, .int .i64 i, .int .i64 j] (st0 n))
        (fun j => adjI g (vt l j) (vt l i)) i (.exit 2, [x0, x1, .undef, x1, .int .i64 l.length, .int .i64 i], st0 n) (.ret, [x0, x1, .bool false, x1, .int .i64 l.length, .int .i64 i], st0 n)
        (by
          rw [loop_impl_allAdjacent_2]
          simp only [bind_some', aBin_lss, cnd_dec, Int.lt_irrefl, if_false])
        (fun j hj => by
          have hjl : (l.take i)[j]? = some l[j] := by rw [List.getElem?_take_of_lt hj, List.getElem?_eq_getElem (by omega)]
          obtain ⟨e2, rfl, g2⟩ := SlOf.idx s2 hjl
          have hvj : vt l j = l[j] := by simp [vt, List.getElem?_eq_getElem (by omega : j < l.length)]
          have hpj := hin j (by omega)
          simp only [inR, decide_eq_true_iff, hvj] at hpj
          rw [loop_impl_allAdjacent_2]
          simp only [bind_some', aBin_lss, cnd_dec, g2, load_i, aBin_add]
          rw [if_pos (by omega), wrap64 (by omega) (by omega), hvt, hvj]
          obtain ⟨e, q1, q2, q3⟩ := graph_get h0 hg (u := l[j]) (v := l[i]) (by omega) (by omega) (st0 n)
          simp only [q1, q2, q3, bind_some', load_b, aUn_not, cnd_nbool]
          rfl)
        i 0 (by omega)
      rw [show ((0 : Nat) : Int) = 0 from rfl] at C
      rw [C]
      by_cases hc : allF (fun j => adjI g (vt l j) (vt l i)) 0 i = true
      · rw [if_pos hc, if_pos hc, bind_some', k_impl_allAdjacent_2_2]
        simp only [aBin_add, bind_some']
        rw [wrap64 (by omega) (by omega)]; rfl
      · rw [if_neg hc, if_neg hc, bind_some', k_impl_allAdjacent_2_ret])
    l.length 0 (by omega)
  rw [show ((0 : Nat) : Int) = 0 from rfl] at A
  rw [A]
  by_cases hA : adjAll g l = true
  · have hA' := hA
    unfold adjAll at hA'
    rw [if_pos hA', bind_some', k_impl_allAdjacent_1_0]
    simp only [hA, resTup_bool, bind_some', n_st0]
  · have hA' := hA
    unfold adjAll at hA'
    rw [if_neg hA', bind_some', k_impl_allAdjacent_1_ret]
    simp only [hA, resTup_bool, bind_some', n_st0]

theorem NewL.mem {d n n' : Nat} : ∀ {es : List AV}, NewL d n n' es → ∀ e ∈ es, New d n n' e
  | [], _, e, he => by cases he
  | v :: es, ⟨a1, a2, a3, a4⟩, e, he => by
    simp only [tagsL, List.nodup_append] at a1
    simp only [tagsL, List.mem_append] at a2
    simp only [thBL, Bool.and_eq_true] at a3
    simp only [depL] at a4
    rcases List.mem_cons.1 he with rfl | he
    · exact ⟨a1.1, fun t ht => a2 t (.inl ht), a3.1, by omega⟩
    · exact NewL.mem ⟨a1.2.1, fun t ht => a2 t (.inr ht), a3.2, by omega⟩ e he
theorem SlOf.news {α : Type} {s d n n' : Nat} {R : AV → α → Prop} {v : AV} {l : List α} (h : SlOf s R v l) (k : New (d + 1) n n' v) {i : Nat} {x : α} (hx : l[i]? = some x) : ∃ e, R e x ∧ New d n n' e ∧ ∀ k, aIaddr s v (.int k (i : Int)) = some (.eptr e.cells) := by
  obtain ⟨es, h1, h2⟩ := h
  obtain ⟨e, he, hr⟩ := h2.get i x hx
  have hi := (List.getElem?_eq_some_iff.1 he).1
  rcases h1 with ⟨rfl, rfl⟩ | ⟨t, off, rfl⟩
  · simp at he
  · obtain ⟨a1, a2, a3, a4⟩ := k
    simp only [AV.tags, List.nodup_cons] at a1
    simp only [AV.tags] at a2
    simp only [thB, Bool.and_eq_true] at a3
    simp only [dep] at a4
    obtain ⟨e', hr', hk⟩ := SlOf.idx (s := s) (R := fun a b => a = b) (v := .sl t off s es) (l := es) ⟨es, .inr ⟨_, _, rfl⟩, by
      clear h2 he hi a1 a2 a3 a4
      induction es with
      | nil => rfl
      | cons e es ih => exact ⟨e, es, rfl, rfl, ih⟩⟩ he
    subst hr'
    exact ⟨e', hr, NewL.mem ⟨a1.2, fun t ht => a2 t (List.mem_cons_of_mem _ ht), a3.2, by omega⟩ e' (List.mem_of_getElem? he), hk⟩
theorem stepB_bad {g : List (List Bool)} {b x : List Int} (h : ¬ b.length < x.length) : stepB g b x = b := by unfold stepB; rw [if_neg (fun k => h k.1)]
theorem foldl_take_succ {α β : Type} (f : β → α → β) (b : β) {l : List α} {i : Nat} {x : α} (h : l[i]? = some x) : (l.take (i + 1)).foldl f b = f ((l.take i).foldl f b) x := by
  rw [List.take_add_one, h]; simp
theorem MaxClique_impl0 {x0 : AV} {g : List (List Bool)} (h0 : BSS x0 g) (hl : g.length ≤ 1048576) (hr : ∀ r ∈ g, r.length ≤ 1048576) (n : Nat) :
    Ok (L.call i_impl_MaxClique [x0] n) fun p => n ≤ p.2 ∧ IS p.1 (maxM g) ∧ New 1 n p.2 p.1 := by
  rw [call_impl_MaxClique]
  refine Ok.gives (Gives.of (IsGraph_impl_call h0 hl hr)) (plain1 h0.plain) fun n1 hn1 => ?_
  have hn1' : n ≤ n1 := hn1
  simp only [aUn_not, bind_some']
  refine Ok.cndnb (fun hc => ?_) fun hg => ?_
  · rw [resTup_plain plain_nils]
    exact ⟨_, rfl, hn1', ⟨[], .inl ⟨rfl, rfl⟩, by simp [maxM, hc, All2]⟩, New.nils⟩
  obtain ⟨h12, _⟩ := graphM_rows hg
  rw [lit0_i]
  simp only [SlOf.len h0, bind_some']
  refine Ok.call (vertexSets_ok h12 _) (plain1 (plain_int _ _)) fun vs n2 hp => ?_
  obtain ⟨q1, q2, q3⟩ : n1 + 1 ≤ n2 ∧ ISS vs (vsP g.length (2 ^ g.length)) ∧ New 2 (n1 + 1) n2 vs := hp
  have hA : AccI n ((((st0 n).setN n1).new 1 []).setN n2) (.lsl ((st0 n).setN n1).m ((st0 n).setN n1).n 1 0 0) [] := (AccI.lit (show n ≤ ((st0 n).setN n1).n from hn1')).setN q1
  have hstn : (((st0 n).setN n1).new 1 []).setN n2 = ((((st0 n).setN n1).new 1 []).setN n2) := rfl
  have hn2 : ((((st0 n).setN n1).new 1 []).setN n2).n = n2 := rfl
  generalize ((((st0 n).setN n1).new 1 []).setN n2) = st at *
  simp only [SlOf.len q2, bind_some', vsP_length]
  have hM := max_fold g hg
  have hpow : 2 ^ g.length ≤ 4096 := Nat.le_trans (Nat.pow_le_pow_right (by omega) h12) (by decide)
  have hvl := vsP_length g.length (2 ^ g.length)
  have hmem : ∀ (i : Nat) (x : List Int), (vsP g.length (2 ^ g.length))[i]? = some x → inOrd g.length x := by
    intro i x hx
    have := List.mem_of_getElem? hx
    simp only [vsP, List.mem_map] at this
    obtain ⟨c, _, rfl⟩ := this
    exact setOf_ord _ _
  generalize vsP g.length (2 ^ g.length) = VS at *
  generalize 2 ^ g.length = P at *
  refine Ok.bind (P := fun r => ∃ x, r = (.exit 0, [.undef, x], st) ∧ (AccI n st x (maxM g) ∨ (IS x (maxM g) ∧ New 1 n st.n x)))
    (Ok.loop (σ := AV) (Lp := fun i x => L.loop [0, 3, 12, 13, 14] [2, 3] b_impl_MaxClique_1 [x0, x, vs, .int .i64 P, .int .i64 i] st) (I := fun i x => AccI n st x ((VS.take i).foldl (stepB g) []) ∨ (IS x ((VS.take i).foldl (stepB g) []) ∧ New 1 n st.n x)) P ?_ ?_ P 0 (.lsl ((st0 n).setN n1).m ((st0 n).setN n1).n 1 0 0) (by omega) (.inl hA)) ?_
  · intro x hx
    rw [← hvl, List.take_length, hM] at hx
    rw [loop_impl_MaxClique_1]
    simp only [bind_some', aBin_lss, cnd_dec, Int.lt_irrefl, if_false]
    exact ⟨_, rfl, x, rfl, hx⟩
  · intro i x hi hx ih
    obtain ⟨s, hVi⟩ : ∃ s, VS[i]? = some s := ⟨_, List.getElem?_eq_getElem (by omega)⟩
    obtain ⟨e, r1, r2, r3⟩ := SlOf.news q2 q3 hVi
    have ho := hmem i _ hVi
    have hlen := inOrd_len ho
    have hxl : aLen x = some (.int .i64 ((VS.take i).foldl (stepB g) []).length) := by
      rcases hx with hx | ⟨hx, _⟩
      · exact hx.len
      · exact SlOf.len hx
    have hf := foldl_take_succ (stepB g) [] hVi
    rw [loop_impl_MaxClique_1]
    simp only [bind_some', aBin_lss, aBin_gtr, aBin_add, cnd_dec, r3, ld_eptr, ld_one (SlOf.one r1), SlOf.len r1, hxl]
    rw [if_pos (by omega), wrap_i (by omega)]
    by_cases hb : ((VS.take i).foldl (stepB g) []).length < s.length
    · rw [if_pos (by omega), call_same (plain2 h0.plain r1.plain) (allAdjacent_call h0 r1 hg (fun j hj => by have := ho j hj; simp only [inR, decide_eq_true_iff]; omega) (by omega) _)]
      simp only [bind_some']
      refine Ok.cndb (fun ha => ?_) fun ha => ?_
      · refine ih e (.inr ?_)
        rw [hf]; unfold stepB; rw [if_pos ⟨hb, ha⟩]
        exact ⟨r1, r2.wide (Nat.le_refl _) (by omega) (by omega)⟩
      · refine ih x ?_
        rw [hf]; unfold stepB; rw [if_neg (fun k => by rw [ha] at k; exact Bool.false_ne_true k.2)]
        exact hx
    · rw [if_neg (by omega)]
      refine ih x ?_
      rw [hf, stepB_bad hb]; exact hx
  · rintro _ ⟨x, rfl, hx⟩
    rw [k_impl_MaxClique_1_0]
    rcases hx with hx | ⟨hx, hN⟩
    · obtain ⟨T, t1, _, t2, t3⟩ := hx.fin
      rw [t1]
      exact ⟨_, rfl, (show n ≤ st.n by omega), t2, t3⟩
    · rw [resTup_plain hx.plain]
      exact ⟨_, rfl, (show n ≤ st.n by omega), hx, hN⟩

theorem ComplementGraph_impl0 {x0 : AV} {g : List (List Bool)} (h0 : BSS x0 g) (hl : g.length ≤ 1048576) (hr : ∀ r ∈ g, r.length ≤ 1048576) (n : Nat) :
    Ok (L.call i_impl_ComplementGraph [x0] n) fun p => n ≤ p.2 ∧ BSS p.1 (complM g) ∧ New 2 n p.2 p.1 := by
  rw [call_impl_ComplementGraph]
  refine Ok.call (Ok.eq (IsGraph_impl_call h0 hl hr _)) (plain1 h0.plain) fun r n1 hp => ?_
  obtain ⟨hn1, rfl⟩ : n ≤ n1 ∧ r = .bool (graphM g) := hp
  simp only [aUn_not, bind_some']
  refine Ok.cndnb (fun hc => ?_) fun hg => ?_
  · rw [resTup_plain plain_nils]
    exact ⟨_, rfl, hn1, ⟨[], .inl ⟨rfl, rfl⟩, by simp [complM, hc, All2]⟩, New.nils⟩
  rw [lit0_n]
  simp only [SlOf.len h0, bind_some']
  obtain ⟨h12, hrows⟩ := graphM_rows hg
  refine Ok.bind (P := fun r => ∃ v st, r = (.exit 0, [.undef, v], st) ∧ AccBSS n st v (matP g.length (cplC g) g.length) ∧ n ≤ st.n)
    (Ok.loop (σ := AV × St) (Lp := fun i s => L.loop [3, 13, 14, 15] [2, 3] b_impl_ComplementGraph_1 [s.1, x0, .int .i64 g.length, .int .i64 i] s.2) (I := fun i s => AccBSS n s.2 s.1 (matP g.length (cplC g) i) ∧ n ≤ s.2.n) g.length ?_ ?_ g.length 0 (.lsl ((st0 n).setN n1).m ((st0 n).setN n1).n 1 0 0, ((st0 n).setN n1).new 1 []) (by omega) ⟨AccBSS.lit hn1, Nat.le_trans hn1 (Nat.le_succ _)⟩) ?_
  · rintro ⟨v, st⟩ ⟨hA, hn⟩
    rw [loop_impl_ComplementGraph_1]
    simp only [bind_some', aBin_lss, cnd_dec, Int.lt_irrefl, if_false]
    exact ⟨_, rfl, v, st, rfl, hA, hn⟩
  · rintro i ⟨v, st⟩ hi ⟨hA, hn⟩ ih
    dsimp only at hA hn
    obtain ⟨row, hrow, hrl⟩ := hrows i hi
    obtain ⟨e, p1, g1⟩ := SlOf.idx h0 hrow
    rw [loop_impl_ComplementGraph_1]
    simp only [bind_some', aBin_lss, cnd_dec, g1, ld_eptr, ld_one (SlOf.one p1), SlOf.len p1, hrl]
    rw [if_pos (by omega), lit0_b]
    refine Ok.bind (P := fun r => ∃ w st1, r = (.exit 2, [.undef, v, w, x0, .int .i64 g.length, .int .i64 i], st1) ∧ RowI n st v w st1 (matR (cplC g i) g.length))
      (Ok.loop (σ := AV × St) (Lp := fun j s => L.loop [3, 4, 6, 13, 14, 15, 21, 22, 23] [2, 3, 6, 13, 14, 15] b_impl_ComplementGraph_2 [v, .int .i64 i, s.1, x0, .int .i64 g.length, .int .i64 i, e, .int .i64 g.length, .int .i64 j] s.2) (I := fun j s => RowI n st v s.1 s.2 (matR (cplC g i) j)) g.length ?_ ?_ g.length 0 (.lsl st.m st.n 1 0 0, st.new 1 []) (by omega) RowI.start) ?_
    · rintro ⟨w, st1⟩ hR
      rw [loop_impl_ComplementGraph_2]
      simp only [bind_some', aBin_lss, cnd_dec, Int.lt_irrefl, if_false]
      exact ⟨_, rfl, w, st1, rfl, hR⟩
    · rintro j ⟨w, st1⟩ hj hR ih2
      dsimp only at hR
      obtain ⟨e2, rfl, g2⟩ := SlOf.idx p1 (List.getElem?_eq_getElem (by omega : j < row.length))
      have hc : at2 g i j = row[j]'(by omega) := by simp [at2, hrow, List.getElem?_eq_getElem (by omega : j < row.length)]
      have hml := matR_length (cplC g i) j
      rw [loop_impl_ComplementGraph_2]
      simp only [bind_some', aBin_lss, aBin_leq, aBin_gtr, aBin_geq, aBin_eql, aBin_neq, aBin_add, aBin_sub, aBin_mul, aBin_seql, aBin_sneq, aBinb_eql, aBinb_neq, aUn_not, aUn_neg, aSlen_str, extr0, extr1, extr2, g2, load_b]
      refine Ok.cnd (fun _ => ?_) fun hf => absurd hf (by omega)
      rw [wrap_i (x := (j : Int) + 1) (by omega)]
      refine Ok.cnd (fun hij => ?_) fun hij => ?_
      · refine hR.push (by omega) fun w' st' hR' => ih2 (w', st') ?_
        have hcell : cplC g i j = !row[j]'(by omega) := by
          have : ¬ i = j := by omega
          simp [cplC, hc, this]
        rw [matR_succ, hcell]
        exact hR'
      · refine hR.push (by omega) fun w' st' hR' => ih2 (w', st') ?_
        have hcell : cplC g i j = false := by
          have : i = j := by omega
          simp [cplC, this]
        rw [matR_succ, hcell]
        exact hR'
    · rintro _ ⟨w, st1, rfl, hR⟩
      have hpl := matP_length g.length (cplC g) i
      rw [k_impl_ComplementGraph_2_2]
      refine hR.close hA hn (by omega) fun v' st' k1 k2 => ?_
      simp only [aBin_add, bind_some']
      rw [wrap_i (by omega)]
      exact ih (v', st') ⟨by rw [matP_succ]; exact k1, Nat.le_trans hn k2⟩
  · rintro _ ⟨v, st, rfl, hA, hn⟩
    obtain ⟨T, t1, t2, t3⟩ := hA.fin
    rw [k_impl_ComplementGraph_1_0, t1]
    exact ⟨_, rfl, hn, by simp only [complM, hg, if_true]; exact t2, t3⟩

theorem lawHasInt_ok {v : AV} {l : List Int} (h : IS v l) (hl : l.length ≤ 4294967296) (x : Int) (n : Nat) : Ok (L.call i_laws_hasInt [v, .int .i64 x] n) fun p => n ≤ p.2 ∧ p.1 = .bool (decide (x ∈ l)) := by
  rw [call_laws_hasInt, SlOf.len h]
  simp only [bind_some']
  have A := loop_all (fun i => L.loop [1, 7, 8, 9] [4] b_laws_hasInt_1 [.int .i64 x, v, .int .i64 l.length, .int .i64 i] (st0 n)) (fun i => !decide (vt l i = x)) l.length (.exit 0, [.undef], st0 n) (.ret, [.bool true], st0 n)
    (by
      rw [loop_laws_hasInt_1]
      simp only [bind_some', aBin_lss, cnd_dec, Int.lt_irrefl, if_false])
    (fun i hi => by
      obtain ⟨p, q1, q2⟩ := IS.get (st := st0 n) h (List.getElem?_eq_getElem hi) .i64
      have hvt : vt l i = l[i] := by simp [vt, List.getElem?_eq_getElem hi]
      rw [loop_laws_hasInt_1]
      simp only [bind_some', aBin_lss, cnd_dec, q1, q2, aBin_eql, aBin_add, hvt]
      rw [if_pos (by omega), wrap64 (by omega) (by omega)]
      by_cases e : l[i] = x <;> simp [e])
    l.length 0 (by omega)
  rw [show ((0 : Nat) : Int) = 0 from rfl] at A
  rw [A]
  have hm : allF (fun i => !decide (vt l i = x)) 0 l.length = !decide (x ∈ l) := by
    rw [Bool.eq_iff_iff, allF_iff]
    simp only [Bool.not_eq_true', decide_eq_false_iff_not]
    constructor
    · intro h hx
      obtain ⟨i, hi, e⟩ := List.mem_iff_getElem.1 hx
      exact h i (Nat.zero_le _) (by omega) (by simp [vt, List.getElem?_eq_getElem hi, e])
    · intro hx i _ hi e
      have hi' : i < l.length := by omega
      exact hx (by rw [← e]; simp [vt, List.getElem?_eq_getElem hi'])
  rw [hm]
  by_cases hx : x ∈ l
  · simp only [hx, decide_true, Bool.not_true, Bool.false_eq_true, if_false, bind_some', k_laws_hasInt_1_ret, resTup_bool]
    exact ⟨_, rfl, Nat.le_refl _, rfl⟩
  · simp only [hx, decide_false, Bool.not_false, if_true, bind_some', k_laws_hasInt_1_0, resTup_bool]
    exact ⟨_, rfl, Nat.le_refl _, rfl⟩

end Go.Proofs.YtilbmpdeginabaaFw
