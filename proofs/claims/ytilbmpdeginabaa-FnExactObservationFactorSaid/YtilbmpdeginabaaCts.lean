/- What the functions that the law reaches give back. Conditions: those of each theorem. -/
import Derived.Test.YtilbmpdeginabaaEqs
set_option linter.unusedSimpArgs false
set_option linter.unusedVariables false
namespace Go.Proofs.YtilbmpdeginabaaFw
open Go

theorem nodupB_of {l : List Nat} (h : l.Nodup) : nodupB l = true := by
  induction l with
  | nil => rfl
  | cons t l ih =>
    rw [List.nodup_cons] at h
    simp only [nodupB, Bool.and_eq_true, Bool.not_eq_true']
    exact ⟨by simpa using h.1, ih h.2⟩
theorem tagsL_append : ∀ (a b : List AV), tagsL (a ++ b) = tagsL a ++ tagsL b
  | [], b => rfl
  | v :: a, b => by simp [tagsL, tagsL_append a b]
theorem thBL_append : ∀ (a b : List AV), thBL (a ++ b) = (thBL a && thBL b)
  | [], b => rfl
  | v :: a, b => by simp [thBL, thBL_append a b, Bool.and_assoc]
theorem depL_append : ∀ (a b : List AV), depL (a ++ b) = max (depL a) (depL b)
  | [], b => by simp [depL]
  | v :: a, b => by simp [depL, depL_append a b, Nat.max_assoc]

/-- all slices new, their tags in [n, n') -/
def New (d n n' : Nat) (v : AV) : Prop := v.tags.Nodup ∧ (∀ t ∈ v.tags, n ≤ t ∧ t < n') ∧ thB v = true ∧ dep v ≤ d
def NewL (d n n' : Nat) (vs : List AV) : Prop := (tagsL vs).Nodup ∧ (∀ t ∈ tagsL vs, n ≤ t ∧ t < n') ∧ thBL vs = true ∧ depL vs ≤ d

mutual
theorem dep_tags : ∀ {v : AV}, dep v = 0 → thB v = true → v.tags = []
  | .sl .., h, _ => by simp [dep] at h
  | .agg cs, h, k => by
    simp only [dep] at h; simp only [thB, Bool.and_eq_true] at k
    simp only [AV.tags]; exact depL_tags h k.2
  | .bool _, _, _ => rfl
  | .int .., _, _ => rfl
  | .str _, _, _ => rfl
  | .nils, _, _ => rfl
  | .undef, _, k => by simp [thB] at k
  | .nilp, _, k => by simp [thB] at k
  | .ptr .., _, k => by simp [thB] at k
  | .eptr .., _, k => by simp [thB] at k
  | .lsl .., _, k => by simp [thB] at k
  | .tup .., _, k => by simp [thB] at k
theorem depL_tags : ∀ {vs : List AV}, depL vs = 0 → thBL vs = true → tagsL vs = []
  | [], _, _ => rfl
  | v :: vs, h, k => by
    simp only [depL] at h; simp only [thBL, Bool.and_eq_true] at k
    simp [tagsL, dep_tags (by omega) k.1, depL_tags (by omega) k.2]
end

theorem New.flat {d n n' : Nat} {v : AV} (h : dep v = 0) (k : thB v = true) : New d n n' v := by
  have := dep_tags h k
  exact ⟨by rw [this]; exact List.nodup_nil, by rw [this]; simp, k, by omega⟩
theorem NewL.nil {d n n' : Nat} : NewL d n n' [] := ⟨List.nodup_nil, by simp [tagsL], rfl, by simp [depL]⟩
theorem NewL.snoc {d n n1 n2 : Nat} {vs : List AV} {v : AV} (h : NewL d n n1 vs) (k : New d n1 n2 v) (h1 : n ≤ n1) (h2 : n1 ≤ n2) : NewL d n n2 (vs ++ [v]) := by
  obtain ⟨a1, a2, a3, a4⟩ := h
  obtain ⟨b1, b2, b3, b4⟩ := k
  have e : tagsL (vs ++ [v]) = tagsL vs ++ v.tags := by simp [tagsL_append, tagsL]
  refine ⟨?_, ?_, by simp [thBL_append, thBL, a3, b3], by simp [depL_append, depL]; omega⟩
  · rw [e, List.nodup_append]
    refine ⟨a1, b1, fun x hx y hy => ?_⟩
    have := a2 x hx; have := b2 y hy; omega
  · rw [e]; intro t ht
    rcases List.mem_append.1 ht with ht | ht
    · have := a2 t ht; omega
    · have := b2 t ht; omega
theorem NewL.cons {d n n1 n2 : Nat} {vs : List AV} {v : AV} (h : New d n n1 v) (k : NewL d n1 n2 vs) (h1 : n ≤ n1) (h2 : n1 ≤ n2) : NewL d n n2 (v :: vs) := by
  obtain ⟨a1, a2, a3, a4⟩ := h
  obtain ⟨b1, b2, b3, b4⟩ := k
  refine ⟨?_, ?_, by simp [thBL, a3, b3], by simp only [depL]; omega⟩
  · simp only [tagsL]; rw [List.nodup_append]
    refine ⟨a1, b1, fun x hx y hy => ?_⟩
    have := a2 x hx; have := b2 y hy; omega
  · simp only [tagsL]; intro t ht
    rcases List.mem_append.1 ht with ht | ht
    · have := a2 t ht; omega
    · have := b2 t ht; omega
theorem New.wide {d d' n n' m m' : Nat} {v : AV} (h : New d n n' v) (hd : d ≤ d') (h1 : m ≤ n) (h2 : n' ≤ m') : New d' m m' v :=
  ⟨h.1, fun t ht => by have := h.2.1 t ht; omega, h.2.2.1, by have := h.2.2.2; omega⟩
theorem NewL.wide {d d' n n' m m' : Nat} {v : List AV} (h : NewL d n n' v) (hd : d ≤ d') (h1 : m ≤ n) (h2 : n' ≤ m') : NewL d' m m' v :=
  ⟨h.1, fun t ht => by have := h.2.1 t ht; omega, h.2.2.1, by have := h.2.2.2; omega⟩
theorem New.sl {d n n' t s : Nat} {es : List AV} (h : NewL d (t + 1) n' es) (h1 : n ≤ t) (h2 : t < n') (h3 : s ≠ 0) : New (d + 1) n n' (.sl t 0 s es) := by
  obtain ⟨a1, a2, a3, a4⟩ := h
  refine ⟨?_, ?_, by simp [thB, nbeq, h3, a3], by simp only [dep]; omega⟩
  · simp only [AV.tags, List.nodup_cons]
    exact ⟨fun hm => by have := a2 t hm; omega, a1⟩
  · simp only [AV.tags]; intro x hx
    rcases List.mem_cons.1 hx with rfl | hx
    · omega
    · have := a2 x hx; omega
/-- the array's tag behind its elements' (appended) -/
theorem New.sl' {d n n' t s : Nat} {es : List AV} (h : NewL d n t es) (h1 : n ≤ t) (h2 : t < n') (h3 : s ≠ 0) : New (d + 1) n n' (.sl t 0 s es) := by
  obtain ⟨a1, a2, a3, a4⟩ := h
  refine ⟨?_, ?_, by simp [thB, nbeq, h3, a3], by simp only [dep]; omega⟩
  · simp only [AV.tags, List.nodup_cons]
    exact ⟨fun hm => by have := a2 t hm; omega, a1⟩
  · simp only [AV.tags]; intro x hx
    rcases List.mem_cons.1 hx with rfl | hx
    · omega
    · have := a2 x hx; omega
/-- flat elements -/
theorem NewL.flat {d n n' : Nat} {vs : List AV} (h : depL vs = 0) (k : thBL vs = true) : NewL d n n' vs := by
  have := depL_tags h k
  exact ⟨by rw [this]; exact List.nodup_nil, by rw [this]; simp, k, by omega⟩
theorem flatL {vs : List AV} (h : ∀ v ∈ vs, dep v = 0 ∧ thB v = true) : depL vs = 0 ∧ thBL vs = true := by
  induction vs with
  | nil => exact ⟨rfl, rfl⟩
  | cons v vs ih =>
    obtain ⟨a, b⟩ := h v List.mem_cons_self
    obtain ⟨c, d⟩ := ih fun w hw => h w (List.mem_cons_of_mem _ hw)
    exact ⟨by simp [depL, a, c], by simp [thBL, b, d]⟩
theorem New.nils {d n n' : Nat} : New d n n' .nils := New.flat rfl rfl
theorem New.agg {d n n' : Nat} {cs : List AV} (h : NewL d n n' cs) (k : cs.all AV.one = true) : New d n n' (.agg cs) :=
  ⟨h.1, h.2.1, by simp only [thB, Bool.and_eq_true]; exact ⟨k, h.2.2.1⟩, h.2.2.2⟩
theorem New.fresh {n n' : Nat} {v : AV} {d : Nat} (h : New d n n' v) (hd : d ≤ 6) : Fresh n n' v := ⟨nodupB_of h.1, h.2.1, h.2.2.1, by have := h.2.2.2; omega⟩

theorem All2.mem {α : Type} {R : AV → α → Prop} : ∀ {es : List AV} {l : List α}, All2 R es l → ∀ e ∈ es, ∃ x ∈ l, R e x
  | [], _, _, e, he => by simp at he
  | a :: es, l, h, e, he => by
    simp only [All2] at h
    obtain ⟨b, r, rfl, h1, h2⟩ := h
    rcases List.mem_cons.1 he with rfl | he
    · exact ⟨b, List.mem_cons_self, h1⟩
    · obtain ⟨x, hx, hr⟩ := h2.mem e he
      exact ⟨x, List.mem_cons_of_mem _ hx, hr⟩

/-- a loop that fills a fresh array -/
theorem to_loop {α ρ : Type} {R : AV → α → Prop} {d n0 : Nat} (Lp : Nat → St → Option ρ) (l : List α) (t s j : Nat) (z : AV)
    (step : ∀ (ds : List AV) (x : α) (k : Nat) (st : St), l[ds.length]? = some x → st.H j = some ⟨t, s, ds ++ z :: List.replicate k z⟩ → ds.length + 1 + k = l.length →
      ∃ v n', R v x ∧ New d st.n n' v ∧ st.n ≤ n' ∧ Lp ds.length st = Lp (ds.length + 1) ((st.put j ⟨t, s, ds ++ v :: List.replicate k z⟩).setN n')) :
    ∀ (k : Nat) (ds : List AV) (st : St), ds.length + k = l.length → st.H j = some ⟨t, s, ds ++ List.replicate k z⟩ → n0 ≤ st.n → NewL d n0 st.n ds → All2 R ds (l.take ds.length) →
      ∃ es st', Lp ds.length st = Lp l.length st' ∧ st'.H j = some ⟨t, s, es⟩ ∧ All2 R es l ∧ NewL d n0 st'.n es ∧ st.n ≤ st'.n ∧ (∀ i, i ≠ j → st'.H i = st.H i) ∧ st'.m = st.m
  | 0, ds, st, h, hH, hn, hF, hA => by
    refine ⟨ds, st, by rw [← h]; rfl, by simpa using hH, by rwa [List.take_of_length_le (by omega)] at hA, hF, Nat.le_refl _, fun _ _ => rfl, rfl⟩
  | k + 1, ds, st, h, hH, hn, hF, hA => by
    have hi : ds.length < l.length := by omega
    obtain ⟨v, n', h1, h2, h3, h4⟩ := step ds l[ds.length] k st (List.getElem?_eq_getElem hi) hH (by omega)
    obtain ⟨es, st', g1, g2, g3, g4, g5, g6, g7⟩ := to_loop Lp l t s j z step k (ds ++ [v]) ((st.put j ⟨t, s, ds ++ v :: List.replicate k z⟩).setN n') (by simp; omega)
      (by simp [St.setN, St.put]) (by simp [setN_n]; omega) (hF.snoc h2 hn h3) (by
        rw [List.length_append, List.length_singleton, List.take_add_one, List.getElem?_eq_getElem hi]
        exact hA.append (by simp only [Option.toList, All2]; exact ⟨_, _, rfl, h1, rfl⟩))
    refine ⟨es, st', ?_, g2, g3, g4, by simp [setN_n] at g5; omega, fun i hi => ?_, g7⟩
    · rw [h4, ← g1, List.length_append, List.length_singleton]
    · rw [g6 i hi]; simp [St.setN, St.put, nbeq, hi]

theorem eq_loop {α ρ : Type} [DecidableEq α] (Lp : Nat → Nat → Option ρ) (l1 l2 : List α) (e r : Nat → ρ) (hl : l1.length = l2.length) (he : ∀ n, Lp l1.length n = some (e n))
    (step : ∀ i x y n, l1[i]? = some x → l2[i]? = some y → ∃ n', n ≤ n' ∧ Lp i n = if x = y then Lp (i + 1) n' else some (r n')) :
    ∀ (k i n : Nat), i + k = l1.length → ∃ n', n ≤ n' ∧ Lp i n = some (if l1.drop i = l2.drop i then e n' else r n')
  | 0, i, n, h => by
    have : i = l1.length := by omega
    subst this
    exact ⟨n, Nat.le_refl _, by rw [he, if_pos (by rw [List.drop_length, hl, List.drop_length])]⟩
  | k + 1, i, n, h => by
    have h1 : i < l1.length := by omega
    have h2 : i < l2.length := by omega
    obtain ⟨n', g1, g2⟩ := step i l1[i] l2[i] n (List.getElem?_eq_getElem h1) (List.getElem?_eq_getElem h2)
    rw [g2, List.drop_eq_getElem_cons h1, List.drop_eq_getElem_cons h2]
    by_cases hx : l1[i] = l2[i]
    · obtain ⟨n2, f1, f2⟩ := eq_loop Lp l1 l2 e r hl he step k (i + 1) n' (by omega)
      rw [if_pos hx, f2]
      refine ⟨n2, Nat.le_trans g1 f1, ?_⟩
      simp only [hx, List.cons.injEq, true_and]
    · rw [if_neg hx]
      exact ⟨n', g1, by rw [if_neg fun h => hx (List.cons.inj h).1]⟩

theorem sz_loop {α ρ : Type} {c : α → Nat} (Lp : Nat → Int → Nat → Option ρ) (l : List α) (e r : Int → Nat → ρ) (he : ∀ z n, Lp l.length z n = some (e z n))
    (step : ∀ (i : Nat) (x : α) (left : Int) (n : Nat), l[i]? = some x → 0 ≤ left → left ≤ 1048576 → ∃ (z : Int) (n' : Nat), n ≤ n' ∧ z ≤ left ∧ (0 ≤ z → z = left - c x) ∧ Lp i left n = if z < 0 then some (r z n') else Lp (i + 1) z n') :
    ∀ (k i : Nat) (left : Int) (n : Nat), i + k = l.length → 0 ≤ left → left ≤ 1048576 →
      ∃ n', n ≤ n' ∧ ((∃ z, 0 ≤ z ∧ z = left - cntL c (l.drop i) ∧ Lp i left n = some (e z n')) ∨ ∃ z, z < 0 ∧ Lp i left n = some (r z n'))
  | 0, i, left, n, h, h0, h1 => by
    have : i = l.length := by omega
    subst this
    exact ⟨n, Nat.le_refl _, .inl ⟨left, h0, by simp [cntL], he _ _⟩⟩
  | k + 1, i, left, n, h, h0, h1 => by
    have hi : i < l.length := by omega
    obtain ⟨z, n', g1, g2, g3, g4⟩ := step i l[i] left n (List.getElem?_eq_getElem hi) h0 h1
    by_cases hz : z < 0
    · exact ⟨n', g1, .inr ⟨z, hz, by rw [g4, if_pos hz]⟩⟩
    · obtain ⟨n2, f1, f2⟩ := sz_loop Lp l e r he step k (i + 1) z n' (by omega) (by omega) (by omega)
      refine ⟨n2, Nat.le_trans g1 f1, ?_⟩
      rw [g4, if_neg hz, List.drop_eq_getElem_cons hi]
      have := g3 (by omega)
      rcases f2 with ⟨y, y0, y1, y2⟩ | f2
      · exact .inl ⟨y, y0, by simp only [cntL]; omega, y2⟩
      · exact .inr f2

/-- what is held after marks -/
theorem held_loop {α ρ : Type} {R : AV → α → Prop} {mk : α → Int → α} {c : α → Nat} (Lp : Nat → Int → Nat → Option ρ) (es : List AV)
    (step : ∀ i e x k n, es[i]? = some e → R e (mk x k) → 0 ≤ k → k + c x ≤ 4611686018427387904 → ∃ n', n ≤ n' ∧ Lp i k n = Lp (i + 1) (k + c x) n') :
    ∀ (l : List α) (i : Nat) (k : Int) (n : Nat), All2 R (es.drop i) (mkL mk c l k) → i ≤ es.length → 0 ≤ k → k + cntL c l ≤ 4611686018427387904 → ∃ n', n ≤ n' ∧ Lp i k n = Lp es.length (k + cntL c l) n'
  | [], i, k, n, h, hi, _, _ => by
    have := h.length
    simp [mkL] at this
    have : i = es.length := by omega
    subst this
    exact ⟨n, Nat.le_refl _, by simp [cntL]⟩
  | x :: l, i, k, n, h, hi, h0, hc => by
    have hl := h.length
    simp only [mkL, List.length_cons, List.length_drop] at hl
    have hi' : i < es.length := by omega
    rw [List.drop_eq_getElem_cons hi'] at h
    simp only [mkL, All2] at h
    obtain ⟨b, r, e, h1, h2⟩ := h
    cases e
    simp only [cntL] at hc
    obtain ⟨n', g1, g2⟩ := step i es[i] x k n (List.getElem?_eq_getElem hi') h1 h0 (by omega)
    obtain ⟨n2, f1, f2⟩ := held_loop Lp es step l (i + 1) (k + c x) n' h2 (by omega) (by omega) (by omega)
    refine ⟨n2, Nat.le_trans g1 f1, ?_⟩
    rw [g2, f2]
    simp only [cntL]
    rw [show k + (c x : Int) + (cntL c l : Nat) = k + ((c x + cntL c l : Nat) : Int) by omega]

def iota (_ : Int) (k : Int) : Int := k
def mkB (_ : Bool) (k : Int) : Bool := decide (k.tmod 3 = 0)
theorem cnt_one {α : Type} : ∀ (l : List α), cntL (fun _ => 1) l = l.length
  | [] => rfl
  | x :: l => by simp [cntL, cnt_one l]; omega

theorem slof_thB {α : Type} {s d : Nat} {R : AV → α → Prop} {st : St} {a b : Nat} {v T : AV} {l : List α} (hs : s ≠ 0) (h : SlOf s R T l) (k : Own st a b v T)
    (he : ∀ (st : St) (a b : Nat) (v T : AV) (x : α), R T x → Own st a b v T → Go.Proofs.YtilbmpdeginabaaFw.thB T = true ∧ dep T ≤ d) : Go.Proofs.YtilbmpdeginabaaFw.thB T = true ∧ dep T ≤ d + 1 := by
  rcases k.slice h with ⟨_, rfl, _⟩ | ⟨t, j, vs, es, rfl, _, _, _, _, h5, h6⟩
  · exact ⟨rfl, by simp [dep]⟩
  · have h7 : ∀ (es : List AV) (l : List α) (vs : List AV) (a : Nat), All2 R es l → OwnL st a j vs es → thBL es = true ∧ depL es ≤ d := by
      intro es
      induction es with
      | nil => intro l _ _ _ _; exact ⟨rfl, by simp [depL]⟩
      | cons e es ih =>
        intro l vs a h h'
        simp only [All2] at h
        simp only [OwnL] at h'
        obtain ⟨b, r, _, hr, h⟩ := h
        obtain ⟨w, ws, c, _, o1, o2⟩ := h'
        obtain ⟨i1, i2⟩ := ih r _ _ h o2
        obtain ⟨j1, j2⟩ := he _ _ _ _ _ _ hr o1
        exact ⟨by simp [thBL, j1, i1], by simp only [depL]; omega⟩
    obtain ⟨g1, g2⟩ := h7 es l vs a h6 h5
    exact ⟨by simp [Go.Proofs.YtilbmpdeginabaaFw.thB, g1, nbeq, hs], by simp only [dep]; omega⟩

def Helds (f : Nat) {α : Type} (P : AV → α → Prop) (mk : α → Int → α) (c : α → Nat) : Prop :=
  ∀ (v : AV) (x : α) (k : Int) (n : Nat), P v (mk x k) → 0 ≤ k → k + c x ≤ 4611686018427387904 → Ok (L.call f [v, .int .i64 k] n) fun p => n ≤ p.2 ∧ p.1 = .int .i64 (k + c x)

theorem resD_setN (E : St) (n : Nat) : ∀ (d : Nat) (v : AV), resD (E.setN n) d v = resD E d v
  | 0, _ => rfl
  | d + 1, v => by
    have h : resD (E.setN n) d = resD E d := funext (resD_setN E n d)
    simp only [resD, h]; rfl
theorem res_setN (E : St) (n : Nat) (v : AV) : res (E.setN n) v = res E v := resD_setN E n 6 v
theorem res_setN' (E : St) (n : Nat) : res (E.setN n) = res E := funext (res_setN E n)
theorem locD_setN (E : St) (n : Nat) : ∀ (d : Nat) (v : AV), locD (E.setN n) d v = locD E d v
  | 0, _ => rfl
  | d + 1, v => by
    have h : locD (E.setN n) d = locD E d := funext (locD_setN E n d)
    simp only [locD, h]; rfl
theorem locs_setN (E : St) (n : Nat) (vs : List AV) : locs (E.setN n) vs = locs E vs := by
  have h : locD (E.setN n) 6 = locD E 6 := funext (locD_setN E n 6)
  simp only [locs, h]

theorem Own.setN {E : St} {n a b : Nat} {v T : AV} (h : Own E a b v T) : Own (E.setN n) a b v T := h.frame fun _ _ _ => rfl
theorem Own.unN {E : St} {n a b : Nat} {v T : AV} (h : Own (E.setN n) a b v T) : Own E a b v T := h.frame fun _ _ _ => rfl

section
variable {β : Type} {R : Sys}

/-- a call whose result is a scalar, or whose arguments are no local arrays: n grows alone -/
theorem Ok.callS {E : St} {n f : Nat} {xs ts : List AV} {P : AV × Nat → Prop} {K : AV × St → Option β} {Q : β → Prop} (hr : mapO (res E) xs = some ts) (hc : Ok (R.call f ts n) P)
    (hs : ∀ r n', P (r, n') → ∀ ls, reloc ls r = some r) (k : ∀ r n', P (r, n') → Ok (K (r, E.setN n')) Q) : Ok ((clV R f 0 xs (E.setN n)).bind K) Q := by
  obtain ⟨⟨r, n'⟩, e, h⟩ := hc
  simp only [clV, res_setN', hr, Option.bind_some, setN_n, e, hs r n' h]
  exact k r n' h
theorem Ok.callP {E : St} {n f : Nat} {xs : List AV} {P : AV × Nat → Prop} {K : AV × St → Option β} {Q : β → Prop} (hp : ∀ x ∈ xs, Plain x) (hc : Ok (R.call f xs n) P)
    (k : ∀ r n', P (r, n') → Ok (K (r, E.setN n')) Q) : Ok ((clV R f 0 xs (E.setN n)).bind K) Q := Ok.call (st := E.setN n) hc hp k
/-- the result is taken over -/
theorem Ok.callT {E : St} {d n f : Nat} {xs ts : List AV} {P : AV × Nat → Prop} {K : AV × St → Option β} {Q : β → Prop} (hr : mapO (res E) xs = some ts) (hc : Ok (R.call f ts n) P)
    (hf : ∀ r n', P (r, n') → New d n n' r) (hd : d ≤ 6) (k : ∀ r n' v E', P (r, n') → E.m ≤ E'.m → (∀ j, j < E.m → E'.H j = E.H j) → Own E' E.m E'.m v r → Ok (K (v, E'.setN n')) Q) :
    Ok ((clV R f 6 xs (E.setN n)).bind K) Q := by
  obtain ⟨⟨r, n'⟩, e, h⟩ := hc
  have hN := hf r n' h
  have ht : ∀ vs, r ≠ .tup vs := fun vs e => by rw [e] at hN; simp [New, thB] at hN
  obtain ⟨v, st', t1, t2, t3, t4, t5⟩ := thaw_own (st := E.setN n') (hN.fresh hd) ht
  have hx : clV R f 6 xs (E.setN n) = some (v, st') := by
    simp only [clV, res_setN', hr, Option.bind_some, setN_n, e]
    exact t1
  rw [hx]
  have := k r n' v st' h t2 t4 t5
  rw [show st'.setN n' = st' by rw [← show st'.n = n' from t3]; rfl] at this
  exact this

theorem Ok.inl {f : Nat} {xs : List AV} {st : St} {P : AV × St → Prop} {K : AV × St → Option β} {Q : β → Prop} (hc : Ok (R.inl f xs st) P) (k : ∀ (v : AV) (E : St) (n : Nat), P (v, E.setN n) → Ok (K (v, E.setN n)) Q) : Ok ((R.inl f xs st).bind K) Q := by
  obtain ⟨⟨v, st'⟩, e, h⟩ := hc
  rw [e]; exact k v st' st'.n h

theorem Ok.mkNew {E : St} {n : Nat} {e : AV} {K : AV → St → Option β} {Q : β → Prop} (h : e.stor = true) (h0 : e.cells.length ≠ 0) (k : ∀ (E' : St), E'.m = E.m + 1 → (∀ j, j < E.m → E'.H j = E.H j) → E'.H E.m = some ⟨n, e.cells.length, [e]⟩ → Ok (K (.ptr E.m n 0 0) (E'.setN (n + 1))) Q) : Ok (mkNew e (E.setN n) K) Q := by
  rw [mkNew_eq h h0]
  exact k ((E.setN n).new e.cells.length [e]) rfl (fun j hj => new_H_ne (Nat.ne_of_lt hj)) (new_H _ _ _)
end

theorem mapO1 {g : AV → Option AV} {x y : AV} (h : g x = some y) : mapO g [x] = some [y] := by simp [mapO, h]
theorem mapO2 {g : AV → Option AV} {x y x' y' : AV} (h : g x = some x') (k : g y = some y') : mapO g [x, y] = some [x', y'] := by simp [mapO, h, k]
theorem mapO3 {g : AV → Option AV} {x y z x' y' z' : AV} (h : g x = some x') (k : g y = some y') (l : g z = some z') : mapO g [x, y, z] = some [x', y', z'] := by simp [mapO, h, k, l]
theorem mapO4 {g : AV → Option AV} {x y z u x' y' z' u' : AV} (h : g x = some x') (k : g y = some y') (l : g z = some z') (m : g u = some u') : mapO g [x, y, z, u] = some [x', y', z', u'] := by simp [mapO, h, k, l, m]
theorem mapO_int {g : AV → Option AV} {E : St} {k : IntKind} {i : Int} : res E (.int k i) = some (.int k i) := rfl

theorem scal_bool {n : Nat} {b : Bool} {P : AV × Nat → Prop} (h : ∀ r n', P (r, n') → r = .bool b) : ∀ r n', P (r, n') → ∀ ls, reloc ls r = some r := fun r n' p ls => by rw [h r n' p]; exact reloc_bool ls b
theorem scal_b {b : Bool} {n : Nat} : ∀ r n', (fun p : AV × Nat => n ≤ p.2 ∧ p.1 = .bool b) (r, n') → ∀ ls, reloc ls r = some r := fun r n' p ls => by
  have : r = .bool b := p.2
  rw [this]; exact reloc_bool ls b
theorem scal_i {k : IntKind} {b : Int} {n : Nat} : ∀ r n', (fun p : AV × Nat => n ≤ p.2 ∧ p.1 = .int k b) (r, n') → ∀ ls, reloc ls r = some r := fun r n' p ls => by
  have : r = .int k b := p.2
  rw [this]; exact reloc_int ls k b

section
variable {α β ρ σ : Type}
theorem Ok.loop {Lp : Nat → σ → Option ρ} {I : Nat → σ → Prop} {Q : ρ → Prop} (n : Nat) (he : ∀ s, I n s → Ok (Lp n s) Q)
    (hs : ∀ i s, i < n → I i s → (∀ s', I (i + 1) s' → Ok (Lp (i + 1) s') Q) → Ok (Lp i s) Q) : ∀ k i s, i + k = n → I i s → Ok (Lp i s) Q
  | 0, i, s, h, hi => by
    have : i = n := by omega
    subst this; exact he s hi
  | k + 1, i, s, h, hi => hs i s (by omega) hi fun s' h' => Ok.loop n he hs k (i + 1) s' (by omega) h'

/-- a local array that grows -/
def Acc (n0 : Nat) (st : St) (s : Nat) (v : AV) (es : List AV) : Prop :=
  (v = .nils ∧ es = []) ∨ ∃ j t, Loc st j t s v es ∧ j < st.m ∧ n0 ≤ t ∧ t < st.n
def isAt (v : AV) (i : Nat) : Prop := ∃ t s off len, v = .lsl i t s off len

theorem Acc.lt {n0 s : Nat} {st : St} {v : AV} {es : List AV} (h : Acc n0 st s v es) {q : Nat} (hq : isAt v q) : q < st.m := by
  obtain ⟨t', s', off, len, e⟩ := hq
  rcases h with ⟨rfl, _⟩ | ⟨j, t, h, h1, _⟩
  · cases e
  · rw [h.1] at e; cases e; exact h1
theorem Acc.nil {n0 s : Nat} {st : St} : Acc n0 st s .nils [] := .inl ⟨rfl, rfl⟩
theorem Acc.arr {n0 s : Nat} {st : St} {v : AV} {es : List AV} (h : Acc n0 st s v es) : Arr st s v es := by
  rcases h with ⟨rfl, rfl⟩ | ⟨j, t, h, _⟩
  · exact .nil
  · exact h.arr
theorem Acc.frame {n0 s : Nat} {st st' : St} {v : AV} {es : List AV} (h : Acc n0 st s v es) (k : ∀ i, i < st.m → st'.H i = st.H i) (hm : st.m ≤ st'.m) (hn : st.n ≤ st'.n) : Acc n0 st' s v es := by
  rcases h with ⟨rfl, rfl⟩ | ⟨j, t, h, h1, h2, h3⟩
  · exact .inl ⟨rfl, rfl⟩
  · exact .inr ⟨j, t, h.frame (k j h1), by omega, h2, by omega⟩
theorem Acc.setN {n0 s n' : Nat} {st : St} {v : AV} {es : List AV} (h : Acc n0 st s v es) (hn : st.n ≤ n') : Acc n0 (st.setN n') s v es := h.frame (fun _ _ => rfl) (Nat.le_refl _) hn
theorem Acc.new {n0 s k : Nat} {st : St} {v : AV} {es xs : List AV} (h : Acc n0 st s v es) : Acc n0 (st.new k xs) s v es := h.frame (fun _ hi => new_H_ne (Nat.ne_of_lt hi)) (Nat.le_succ _) (Nat.le_succ _)

theorem lit0 {s : Nat} {z : AV} {st : St} {K : AV → St → Option β} (h : z.stor = true) (h1 : z.cells.length = s) (h2 : s ≠ 0) : mkLit 0 s z [] st K = K (.lsl st.m st.n s 0 0) (st.new s []) := by
  unfold mkLit; rw [if_pos ⟨h, h1, h2⟩]; rfl
theorem lit1 {s : Nat} {z x : AV} {st : St} {K : AV → St → Option β} (h : z.stor = true) (h1 : z.cells.length = s) (h2 : s ≠ 0) (hx : x.stor = true) (hx1 : x.cells.length = s) : mkLit 1 s z [(0, x)] st K = K (.lsl st.m st.n s 0 1) (st.new s [x]) := by
  unfold mkLit; rw [if_pos ⟨h, h1, h2⟩]
  simp only [mkSlice, List.length_replicate]
  rw [if_pos ⟨hx, hx1, by omega⟩]; rfl
theorem Acc.lit {n0 s : Nat} {st : St} (h : n0 ≤ st.n) : Acc n0 (st.new s []) s (.lsl st.m st.n s 0 0) [] := .inr ⟨st.m, st.n, ⟨rfl, new_H _ _ _⟩, Nat.lt_succ_self _, h, Nat.lt_succ_self _⟩

theorem one_stor {v : AV} (h : v.one = true) : v.stor = true ∧ v.cells.length = 1 := by cases v <;> simp [AV.one] at h <;> exact ⟨rfl, rfl⟩

/-- what is appended is an array that holds ys -/
theorem Acc.app {n0 s : Nat} {st : St} {v y : AV} {es ys : List AV} (h : Acc n0 st s v es) (hy : Arr st s y ys) (hn : n0 ≤ st.n) (hl : es.length + ys.length ≤ 4294967296) :
    ∃ v' st', aApp s v y st = some (v', st') ∧ Acc n0 st' s v' (es ++ ys) ∧ st.m ≤ st'.m ∧ st'.n = st.n + 1 ∧ (∀ i, i < st.m → ¬ isAt v i → st'.H i = st.H i) ∧ (∀ q, isAt v' q → isAt v q ∨ st.m ≤ q) := by
  obtain ⟨e1, e2⟩ := hy.elems
  rcases h with ⟨rfl, rfl⟩ | ⟨j, t, h, h1, h2, h3⟩
  · refine ⟨_, _, nil_app e1 e2 (by simpa using hl), .inr ⟨st.m, st.n, ⟨rfl, new_H _ _ _⟩, Nat.lt_succ_self _, hn, Nat.lt_succ_self _⟩, Nat.le_succ _, rfl, fun i hi _ => new_H_ne (Nat.ne_of_lt hi), fun q hq => ?_⟩
    obtain ⟨_, _, _, _, e⟩ := hq; cases e; exact .inr (Nat.le_refl _)
  · refine ⟨_, _, h.app e1 e2 hl, .inr ⟨j, st.n, app_loc rfl, h1, hn, Nat.lt_succ_self _⟩, Nat.le_refl _, rfl, fun i hi hne => ?_, fun q hq => ?_⟩
    case refine_2 => obtain ⟨_, _, _, _, e⟩ := hq; cases e; exact .inl ⟨t, s, 0, es.length, h.1⟩
    have : i ≠ j := fun e => hne ⟨t, s, 0, es.length, by rw [e]; exact h.1⟩
    exact put_H_ne this

/-- one element more -/
theorem Ok.push {n0 s : Nat} {st : St} {z v x : AV} {es : List AV} {K : AV × St → Option β} {Q : β → Prop} (h : Acc n0 st s v es) (hn : n0 ≤ st.n) (hz : z.stor = true) (hz1 : z.cells.length = s) (hs : s ≠ 0) (hx : x.stor = true) (hx1 : x.cells.length = s)
    (hl : es.length < 4294967296) (k : ∀ v' st', Acc n0 st' s v' (es ++ [x]) → st.m ≤ st'.m → st.n ≤ st'.n → (∀ i, i < st.m → ¬ isAt v i → st'.H i = st.H i) → (∀ q, isAt v' q → isAt v q ∨ st.m ≤ q) → Ok (K (v', st')) Q) :
    Ok (mkLit 1 s z [(0, x)] st fun y s2 => (aApp s v y s2).bind K) Q := by
  rw [lit1 hz hz1 hs hx hx1]
  have hy : Arr (st.new s [x]) s (.lsl st.m st.n s 0 1) [x] := (Loc.new (st := st) (s := s) (es := [x])).arr
  obtain ⟨v', st', e, g1, g2, g3, g4, g5⟩ := (h.new (k := s) (xs := [x])).app hy (Nat.le_trans hn (Nat.le_succ _)) (by simp; omega)
  rw [e]
  refine k v' st' g1 (Nat.le_trans (Nat.le_succ _) g2) (by rw [g3, new_n]; omega) (fun i hi hne => ?_) fun q hq => (g5 q hq).imp id fun h => Nat.le_trans (Nat.le_succ _) h
  rw [g4 i (by rw [new_m]; omega) hne, new_H_ne (Nat.ne_of_lt hi)]

theorem Acc.fin {n0 s d : Nat} {st : St} {v : AV} {es : List AV} (h : Acc n0 st s v es) (hp : ∀ e ∈ es, Plain e) : ∃ T, resTup st v = some T ∧ res st v = some T ∧ IsSl s T es ∧ (s ≠ 0 → depL es = 0 → thBL es = true → New (d + 1) n0 st.n T) ∧ ∀ t ∈ T.tags, n0 ≤ t ∨ ∃ e ∈ es, t ∈ e.tags := by
  rcases h with ⟨rfl, rfl⟩ | ⟨j, t, h, h1, h2, h3⟩
  · exact ⟨.nils, rfl, rfl, .inl ⟨rfl, rfl⟩, fun _ _ _ => New.nils, by simp [AV.tags]⟩
  · refine ⟨.sl t 0 s es, h.resTup hp, h.res hp, .inr ⟨_, _, rfl⟩, fun hs h4 h5 => New.sl (NewL.flat h4 h5) h2 h3 hs, ?_⟩
    intro u hu
    simp only [AV.tags] at hu
    rcases List.mem_cons.1 hu with rfl | hu
    · exact .inl h2
    · exact .inr (tagsL_mem.1 hu)

theorem SlOf.intro {s : Nat} {R : AV → α → Prop} {T : AV} {es : List AV} {l : List α} (h : IsSl s T es) (k : All2 R es l) : SlOf s R T l := ⟨es, h, k⟩

theorem All2.snoc {R : AV → α → Prop} {es : List AV} {l : List α} {e : AV} {x : α} (h : All2 R es l) (k : R e x) : All2 R (es ++ [e]) (l ++ [x]) := h.append (by simp only [All2]; exact ⟨_, _, rfl, k, rfl⟩)

/-- reading an element of a slice of one-cell elements -/
theorem Arr.get1 {st : St} {v : AV} {es : List AV} {R : AV → α → Prop} {l : List α} (h : Arr st 1 v es) (k : All2 R es l) {i : Nat} {x : α} (hx : l[i]? = some x) (ho : ∀ e, R e x → e.one = true) (kd : IntKind) :
    ∃ e p, R e x ∧ aIaddr 1 v (.int kd (i : Int)) = some p ∧ aLoad false 1 st p = some e := by
  obtain ⟨e, he, hr⟩ := k.get i x hx
  have hi := (List.getElem?_eq_some_iff.1 he).1
  obtain ⟨p, q1, q2⟩ := h.at hi kd
  have : es[i] = e := by rw [List.getElem?_eq_getElem hi] at he; exact Option.some.inj he
  exact ⟨e, p, hr, q1, by rw [q2, this, ld_one (ho e hr)]⟩
end
theorem wrap_i {x : Int} (h : -9223372036854775808 ≤ x ∧ x ≤ 9223372036854775807) : IntKind.wrap .i64 x = x := wrap64 h.1 h.2

theorem one_ne_zero' : ¬ (1 : Nat) = 0 := by omega
theorem nne1 (a : Nat) : ¬ a = a + 1 := by omega
theorem nne2 (a : Nat) : ¬ a = a + 1 + 1 := by omega
theorem nne3 (a : Nat) : ¬ a = a + 1 + 1 + 1 := by omega
theorem zero_ne_one' : ¬ (0 : Nat) = 1 := by omega
theorem new_m' (st : St) (s : Nat) (es : List AV) : (st.new s es).m = st.m + 1 := id rfl
theorem new_n' (st : St) (s : Nat) (es : List AV) : (st.new s es).n = st.n + 1 := id rfl
theorem setN_m' (st : St) (n : Nat) : (st.setN n).m = st.m := id rfl
theorem setN_n' (st : St) (n : Nat) : (st.setN n).n = n := id rfl
theorem st0_m' (n : Nat) : (st0 n).m = 0 := id rfl
theorem st0_n' (n : Nat) : (st0 n).n = n := id rfl
theorem put_m' (st : St) (j : Nat) (a : LArr) : (st.put j a).m = st.m := id rfl
theorem put_n' (st : St) (j : Nat) (a : LArr) : (st.put j a).n = st.n := id rfl
theorem mkNew_zc {α : Type} {cs : List AV} {st : St} {K : AV → St → Option α} (h : cs.all AV.one = true) (h0 : ¬ cs.length = 0) : mkNew (.agg cs) st K = K (.ptr st.m st.n 0 0) (st.new cs.length [.agg cs]) := mkNew_eq h h0
theorem ba_toList (b : ByteArray) : b.toList = b.data.toList := by
  have : ∀ (k i : Nat) (acc : List UInt8), b.size - i = k → ByteArray.toList.loop b i acc = acc.reverse ++ b.data.toList.drop i := by
    intro k
    induction k with
    | zero =>
      intro i acc h
      unfold ByteArray.toList.loop
      rw [if_neg (by omega), List.drop_of_length_le (by simp; have : b.data.size = b.size := rfl; omega)]; simp
    | succ k ih =>
      intro i acc h
      unfold ByteArray.toList.loop
      have hi : i < b.size := by omega
      have hi' : i < b.data.toList.length := by simpa using hi
      rw [if_pos hi, ih (i + 1) _ (by omega), List.reverse_cons, List.append_assoc, List.singleton_append, List.drop_eq_getElem_cons hi']
      congr 2
      simp [ByteArray.get!]
      rw [getElem!_pos]
  have := this b.size 0 [] (by omega)
  simpa [ByteArray.toList] using this
theorem aBin_seql (a b : ByteArray) : aBin .eql (.str a) (.str b) = some (.bool (decide (a = b))) := by
  have : (a.toList == b.toList) = decide (a = b) := by
    by_cases h : a = b
    · subst h; simp
    · simp only [h, decide_false]
      have : ¬ a.toList = b.toList := fun e => h (by
        have h1 : a.data.toList = b.data.toList := by
          have ha : a.toList = a.data.toList := ba_toList a
          have hb : b.toList = b.data.toList := ba_toList b
          rw [← ha, ← hb, e]
        have h2 : a.data = b.data := Array.toList_inj.1 h1
        cases a; cases b; simp at h2; rw [h2])
      simp [this]
  simp only [aBin, sBin, this]
theorem aBin_sneq (a b : ByteArray) : aBin .neq (.str a) (.str b) = some (.bool (decide (¬ a = b))) := by
  have h := aBin_seql a b
  simp only [aBin, sBin, Option.some.injEq, AV.bool.injEq] at h ⊢
  rw [h]; by_cases e : a = b <;> simp [e]

/-- a call gives a value without slices -/
def Gives (f : Nat) (xs : List AV) (r : AV) : Prop := ∀ n, Ok (L.call f xs n) fun p => n ≤ p.2 ∧ p.1 = r
theorem Gives.of {f : Nat} {xs : List AV} {r : AV} (h : ∀ n, L.call f xs n = some (r, n)) : Gives f xs r := fun n => ⟨_, h n, Nat.le_refl _, rfl⟩
theorem Ok.gives {β : Type} {f : Nat} {xs : List AV} {r : AV} {st : St} {K : AV × St → Option β} {Q : β → Prop} (hg : Gives f xs r) (hp : ∀ x ∈ xs, Plain x) (k : ∀ n', st.n ≤ n' → Ok (K (r, st.setN n')) Q) : Ok ((clV L f 0 xs st).bind K) Q :=
  Ok.call (hg st.n) hp fun r' n' h => by rw [show r' = r from h.2]; exact k n' h.1
/-- the same, where arguments may be local arrays; the result has no slices -/
theorem Ok.givesL {β : Type} {f : Nat} {xs ts : List AV} {r : AV} {st : St} {K : AV × St → Option β} {Q : β → Prop} (hg : Gives f ts r) (hr : mapO (res st) xs = some ts) (hl : ∀ ls, reloc ls r = some r) (k : ∀ n', st.n ≤ n' → Ok (K (r, st.setN n')) Q) : Ok ((clV L f 0 xs st).bind K) Q :=
  Ok.callL hr (hg st.n) fun r' n' h => by rw [show r' = r from h.2]; exact ⟨r, hl _, k n' h.1⟩
theorem Ok.ret {n m : Nat} {v r : AV} {st : St} (h : resTup st v = some v) (hn : n ≤ m) (e : v = r) : Ok ((resTup st v).bind fun r => some (r, m)) fun p => n ≤ p.2 ∧ p.1 = r := by
  rw [h]; exact ⟨_, rfl, hn, e⟩
theorem Ok.retb {n m : Nat} {b c : Bool} {st : St} (hn : n ≤ m) (e : b = c) : Ok ((resTup st (.bool b)).bind fun r => some (r, m)) fun p => n ≤ p.2 ∧ p.1 = .bool c := Ok.ret rfl hn (by rw [e])
theorem Ok.reti {n m : Nat} {k : IntKind} {b c : Int} {st : St} (hn : n ≤ m) (e : b = c) : Ok ((resTup st (.int k b)).bind fun r => some (r, m)) fun p => n ≤ p.2 ∧ p.1 = .int k c := Ok.ret rfl hn (by rw [e])
def plainB (v : AV) : Bool := v.tree && match v with | .agg cs => cs.all AV.one | v => v.one
theorem pB1 {v : AV} (h : plainB v = true) : Plain v := by
  unfold plainB at h
  rw [Bool.and_eq_true] at h
  refine ⟨h.1, ?_⟩
  cases v <;> first | exact .inr ⟨_, rfl, h.2⟩ | exact .inl h.2
theorem pB {xs : List AV} (h : xs.all plainB = true) : ∀ x ∈ xs, Plain x := fun x hx => pB1 (List.all_eq_true.1 h x hx)
theorem plain4 {a b c d : AV} (h : Plain a) (k : Plain b) (l : Plain c) (m : Plain d) : ∀ x ∈ [a, b, c, d], Plain x := by
  intro x hx
  simp only [List.mem_cons, List.not_mem_nil, or_false] at hx
  rcases hx with rfl | rfl | rfl | rfl <;> assumption

def byteAt (b : ByteArray) (i : Nat) : Nat := ((b[i]?).map (·.toNat)).getD 0
def nameAt (b : ByteArray) (i : Nat) : Bool := decide ((97 ≤ byteAt b i ∧ byteAt b i ≤ 122) ∨ (i ≠ 0 ∧ 48 ≤ byteAt b i ∧ byteAt b i ≤ 57))
def nameM (b : ByteArray) : Bool := decide (1 ≤ b.size ∧ b.size ≤ 8) && allF (nameAt b) 0 b.size
def poseNameM (b : ByteArray) : Bool := nameM b && decide (byteAt b 0 = 112)
def landNameM (b : ByteArray) : Bool := nameM b && decide (byteAt b 0 = 109)
theorem byteAt_lt {b : ByteArray} {i : Nat} (h : i < b.size) : byteAt b i = (b[i]).toNat := by simp [byteAt, h]

def RI (v : AV) (i : Int) : Prop := v = .int .i64 i
def IS (v : AV) (l : List Int) : Prop := SlOf 1 RI v l
theorem IS.plain {v : AV} {l : List Int} (h : IS v l) : Plain v := SlOf.plain h fun _ _ hr => by cases hr; rfl
def i64ok (n : Int) : Prop := -9223372036854775808 ≤ n ∧ n ≤ 9223372036854775807
theorem i64_wf {n : Int} (h : (Lit.int .i64 n).wf = true) : i64ok n := by
  unfold i64ok
  simp [Lit.wf, IntKind.min, IntKind.max, IntKind.signed, IntKind.bits] at h
  omega
theorem is_in {v : AV} (h : CT.has (.sl false [.int .i64]) v) : ∃ l, IS v l ∧ l.length ≤ maxLen ∧ ∀ n ∈ l, i64ok n :=
  has_sl h fun _ hx => by
    simp only [CT.has] at hx
    obtain ⟨n, rfl, hw⟩ := hx
    exact ⟨n, rfl, i64_wf hw⟩

def RB (v : AV) (b : Bool) : Prop := v = .bool b
def BS (v : AV) (l : List Bool) : Prop := SlOf 1 RB v l
def BSS (v : AV) (l : List (List Bool)) : Prop := SlOf 1 BS v l

theorem BS.plain {v : AV} {l : List Bool} (h : BS v l) : Plain v := SlOf.plain h fun _ _ hr => by cases hr; rfl
theorem BSS.plain {v : AV} {l : List (List Bool)} (h : BSS v l) : Plain v := SlOf.plain h fun _ _ hr => (BS.plain hr).1
theorem bss_in {v : AV} (h : CT.has (.sl false [.sl false [.bool]]) v) : ∃ l, BSS v l ∧ l.length ≤ maxLen ∧ ∀ r ∈ l, r.length ≤ maxLen :=
  has_sl h fun _ hx => by
    obtain ⟨l, h1, h2, _⟩ := has_sl (R := RB) (P := fun _ => True) hx fun y hy => by
      simp only [CT.has] at hy
      obtain ⟨b, rfl⟩ := hy
      exact ⟨b, rfl, trivial⟩
    exact ⟨l, h1, h2⟩

def at2 (l : List (List Bool)) (i j : Nat) : Bool := ((l[i]?).bind (·[j]?)).getD false
def lenOk (l : List (List Bool)) (i : Nat) : Bool := decide ((l[i]?).map (·.length) = some l.length)
def cellOk (l : List (List Bool)) (i j : Nat) : Bool := !(at2 l i j && decide (i = j)) && decide (at2 l i j = at2 l j i)
def rowOk (l : List (List Bool)) (i : Nat) : Bool := allF (cellOk l i) 0 l.length
def graphM (l : List (List Bool)) : Bool := decide (l.length ≤ 12) && allF (lenOk l) 0 l.length && allF (rowOk l) 0 l.length

def vt (l : List Int) (i : Nat) : Int := (l[i]?).getD 0
def inR (n : Nat) (v : Int) : Bool := decide (0 ≤ v ∧ v ≤ (n : Int) - 1)
def adjI (g : List (List Bool)) (u v : Int) : Bool := at2 g u.toNat v.toNat
def cliqueAt (g : List (List Bool)) (l : List Int) (i : Nat) : Bool := inR g.length (vt l i) && allF (fun j => decide (vt l j < vt l i) && adjI g (vt l i) (vt l j)) 0 i
def cliqueM (g : List (List Bool)) (l : List Int) : Bool := graphM g && allF (cliqueAt g l) 0 l.length

theorem graphM_rows {g : List (List Bool)} (h : graphM g = true) : g.length ≤ 12 ∧ ∀ i, i < g.length → ∃ r, g[i]? = some r ∧ r.length = g.length := by
  unfold graphM at h
  simp only [Bool.and_eq_true, decide_eq_true_iff] at h
  refine ⟨h.1.1, fun i hi => ?_⟩
  have := allF_iff.1 h.1.2 i (Nat.zero_le i) (by omega)
  simp only [lenOk, decide_eq_true_iff, List.getElem?_eq_getElem hi, Option.map_some, Option.some.injEq] at this
  exact ⟨g[i], List.getElem?_eq_getElem hi, this⟩

/-- an element of the graph -/
theorem graph_get {x0 : AV} {g : List (List Bool)} (h0 : BSS x0 g) (h : graphM g = true) {u v : Int} (hu : 0 ≤ u ∧ u < g.length) (hv : 0 ≤ v ∧ v < g.length) (st : St) :
    ∃ e, aIaddr 1 x0 (.int .i64 u) = some (.eptr e.cells) ∧ aLoad false 1 st (.eptr e.cells) = some e ∧ aIaddr 1 e (.int .i64 v) = some (.eptr (AV.bool (adjI g u v)).cells) := by
  obtain ⟨_, hr⟩ := graphM_rows h
  obtain ⟨r, h1, h2⟩ := hr u.toNat (by omega)
  obtain ⟨e, p1, g1⟩ := SlOf.idx h0 h1
  obtain ⟨e2, rfl, g2⟩ := SlOf.idx p1 (List.getElem?_eq_getElem (by omega : v.toNat < r.length))
  have a1 : ((u.toNat : Nat) : Int) = u := by omega
  have a2 : ((v.toNat : Nat) : Int) = v := by omega
  have q1 := g1 .i64
  have q2 := g2 .i64
  rw [a1] at q1; rw [a2] at q2
  refine ⟨e, q1, load_one (SlOf.one p1), ?_⟩
  rw [q2]
  simp [adjI, at2, h1, List.getElem?_eq_getElem (by omega : v.toNat < r.length)]
theorem adj_symm {g : List (List Bool)} (hg : graphM g = true) {u v : Int} (hu : inR g.length u = true) (hv : inR g.length v = true) : adjI g u v = adjI g v u := by
  simp only [inR, decide_eq_true_iff] at hu hv
  unfold graphM at hg
  simp only [Bool.and_eq_true] at hg
  have h1 := allF_iff.1 hg.2 u.toNat (Nat.zero_le _) (by omega)
  have h2 := allF_iff.1 h1 v.toNat (Nat.zero_le _) (by omega)
  simp only [cellOk, Bool.and_eq_true, decide_eq_true_iff] at h2
  exact h2.2


structure Pos where
  t : Int
  x : Int
  y : Int
  deriving DecidableEq
structure Fac where
  id : Int
  kind : Int
  frm : ByteArray
  to : ByteArray
  p : Pos
  w : Int
  deriving DecidableEq
def poseV (p : Pos) : AV := .agg [.int .i64 p.t, .int .i64 p.x, .int .i64 p.y]
def facV (f : Fac) : AV := .agg [.int .i64 f.id, .int .i64 f.kind, .str f.frm, .str f.to, .int .i64 f.p.t, .int .i64 f.p.x, .int .i64 f.p.y, .int .i64 f.w]
theorem pose_plain (p : Pos) : Plain (poseV p) := ⟨rfl, .inr ⟨_, rfl, rfl⟩⟩
theorem fac_plain (f : Fac) : Plain (facV f) := ⟨rfl, .inr ⟨_, rfl, rfl⟩⟩
def poseOk (p : Pos) : Bool := decide (0 ≤ p.t ∧ p.t ≤ 3 ∧ -1000000 ≤ p.x ∧ p.x ≤ 1000000 ∧ -1000000 ≤ p.y ∧ p.y ≤ 1000000)
def facOk (f : Fac) : Bool :=
  decide (0 ≤ f.id ∧ f.id ≤ 99999) && poseOk f.p && decide (1 ≤ f.w ∧ f.w ≤ 9999) &&
  (if f.kind = 1 then decide (f.frm = ⟨#[]⟩) && poseNameM f.to
   else if f.kind = 2 ∨ f.kind = 4 then poseNameM f.frm && poseNameM f.to && decide (¬ f.frm = f.to)
   else if f.kind = 3 then poseNameM f.frm && landNameM f.to && decide (f.p.t = 0)
   else false)
def RF (v : AV) (f : Fac) : Prop := v = facV f
def FS (v : AV) (l : List Fac) : Prop := SlOf 8 RF v l
theorem FS.plain {v : AV} {l : List Fac} (h : FS v l) : Plain v := SlOf.plain h fun _ _ hr => by cases hr; rfl
def RStr (v : AV) (s : ByteArray) : Prop := v = .str s
def SS (v : AV) (l : List ByteArray) : Prop := SlOf 1 RStr v l
theorem SS.plain {v : AV} {l : List ByteArray} (h : SS v l) : Plain v := SlOf.plain h fun _ _ hr => by cases hr; rfl
theorem FS.get {st : St} {v : AV} {l : List Fac} (h : FS v l) {i : Nat} {x : Fac} (hx : l[i]? = some x) (kd : IntKind) : ∃ p, aIaddr 8 v (.int kd (i : Int)) = some (.eptr p) ∧ p = (facV x).cells ∧ aLoad true 8 st (.eptr p) = some (facV x) := by
  obtain ⟨e, rfl, h1⟩ := SlOf.idx h hx
  exact ⟨_, h1 kd, rfl, rfl⟩
theorem SS.get {st : St} {v : AV} {l : List ByteArray} (h : SS v l) {i : Nat} {x : ByteArray} (hx : l[i]? = some x) (kd : IntKind) : ∃ p, aIaddr 1 v (.int kd (i : Int)) = some p ∧ aLoad false 1 st p = some (.str x) := by
  obtain ⟨e, rfl, h1⟩ := SlOf.idx h hx
  exact ⟨_, h1 kd, rfl⟩

def sm_str (x : ByteArray) : Prop := x.size ≤ 1048576
theorem in_str {v : AV} (h : elHas false [.str] v) : ∃ x, v = .str x ∧ x.size ≤ maxLen := by
  have := arg_one h
  simp only [CT.has] at this
  exact this

def sm_int (x : Int) : Prop := i64ok x
theorem in_int {v : AV} (h : elHas false [.int .i64] v) : ∃ x, v = .int .i64 x ∧ i64ok x := by
  have := arg_one h
  simp only [CT.has] at this
  obtain ⟨n, rfl, hw⟩ := this
  exact ⟨n, rfl, i64_wf hw⟩

def obsV (x y w : Int) : AV := .agg [.int .i64 x, .int .i64 y, .int .i64 w]
theorem obs_plain (x y w : Int) : Plain (obsV x y w) := ⟨rfl, .inr ⟨_, rfl, rfl⟩⟩
def obsM (x y w : Int) : Bool := decide (-1000000 ≤ x ∧ x ≤ 1000000 ∧ -1000000 ≤ y ∧ y ≤ 1000000 ∧ 1 ≤ w ∧ w ≤ 9999)
theorem obs_in {v : AV} (h : elHas true [.int .i64, .int .i64, .int .i64] v) : ∃ x y w, v = obsV x y w := by
  obtain ⟨cs, rfl, hc⟩ := arg_agg h
  simp only [hasL, CT.has] at hc
  obtain ⟨_, _, rfl, ⟨x, rfl, _⟩, _, _, rfl, ⟨y, rfl, _⟩, _, _, rfl, ⟨w, rfl, _⟩, rfl⟩ := hc
  exact ⟨x, y, w, rfl⟩

def obsFac (p : ByteArray) (x y w : Int) (nm : ByteArray) (id : Int) : Fac := ⟨id, 3, p, nm, ⟨0, x, y⟩, w⟩
def obsFacM (p : ByteArray) (x y w : Int) (nm : ByteArray) (id : Int) : Fac := if facOk (obsFac p x y w nm id) = true then obsFac p x y w nm id else ⟨0, 0, ⟨#[]⟩, ⟨#[]⟩, ⟨0, 0, 0⟩, 0⟩

theorem l01In_call (a b c : Int) (n : Nat) : L.call i_spec_l01In [.int .i64 a, .int .i64 b, .int .i64 c] n = some (.bool (decide (b ≤ a ∧ a ≤ c)), n) := by
  rw [call_spec_l01In]
  simp only [aBin_geq, bind_some', cnd_dec, aBin_leq, resTup_bool, n_st0]
  by_cases h : b ≤ a <;> simp [h]
theorem cl_spec_l01In (a b c : Int) (st : St) : clV L i_spec_l01In 0 [.int .i64 a, .int .i64 b, .int .i64 c] st = some (.bool (decide (b ≤ a ∧ a ≤ c)), st) :=
  call_same (plain3 (plain_int _ _) (plain_int _ _) (plain_int _ _)) (l01In_call a b c _)

theorem l01In_g (a b c : Int) : Gives i_spec_l01In [.int .i64 a, .int .i64 b, .int .i64 c] (.bool (decide (b ≤ a ∧ a ≤ c))) := Gives.of (l01In_call a b c)
theorem IsValidPose_spec (p : Pos) : Gives i_spec_IsValidPose [poseV p] (.bool (poseOk p)) := by
  intro n
  rw [call_spec_IsValidPose]
  simp only [poseV, retV_one, retV_two, retV_three, mkNew_agg, mkNew_zc, ld_top, ld_old, ld_setN, sto_top, sto_old, sto_setN, faddr_ptr, faddr_eptr, ld_eptr, new_m', new_n', setN_m', setN_n', st0_m', st0_n', put_m', put_n', AV.cells, AV.one, AV.stor, ldCells, setElem, splice, List.all_cons, List.all_nil, List.length_cons, List.length_nil, List.drop, List.take, List.head?_cons, List.getElem?_cons_zero, List.getElem?_cons_succ, List.set_cons_zero, List.nil_append, List.cons_append, List.append_nil, List.drop_zero, List.drop_succ_cons, List.drop_nil, List.take_zero, List.take_succ_cons, List.take_nil, cond_true, cond_false, Bool.and_self, Bool.and_true, and_self, and_true, true_and, if_true, bind_some', Nat.add_zero, Nat.zero_add, Nat.reduceAdd, Nat.reduceLeDiff, ne_eq, not_false_eq_true, Nat.add_eq_zero_iff, Nat.reduceEqDiff, one_ne_zero', zero_ne_one', nne1, nne2, nne3, Nat.add_right_cancel_iff, Nat.add_left_cancel_iff, Nat.le_refl, reduceCtorEq, bind_some', aBin_lss, aBin_leq, aBin_gtr, aBin_geq, aBin_eql, aBin_neq, aBin_add, aBin_sub, aBin_mul, aBin_seql, aBin_sneq, aBinb_eql, aBinb_neq, aUn_not, aUn_neg, aSlen_str, extr0, extr1, extr2]
  repeat' first
    | (refine Ok.cnd (fun h => ?_) fun h => ?_) | (refine Ok.cndn (fun h => ?_) fun h => ?_) | (refine Ok.cndb (fun h => ?_) fun h => ?_) | (refine Ok.cndnb (fun h => ?_) fun h => ?_)
    | (refine Ok.gives (l01In_g _ _ _) (pB rfl) fun m hm => ?_; (simp only [retV_one, retV_two, retV_three, mkNew_agg, mkNew_zc, ld_top, ld_old, ld_setN, sto_top, sto_old, sto_setN, faddr_ptr, faddr_eptr, ld_eptr, new_m', new_n', setN_m', setN_n', st0_m', st0_n', put_m', put_n', AV.cells, AV.one, AV.stor, ldCells, setElem, splice, List.all_cons, List.all_nil, List.length_cons, List.length_nil, List.drop, List.take, List.head?_cons, List.getElem?_cons_zero, List.getElem?_cons_succ, List.set_cons_zero, List.nil_append, List.cons_append, List.append_nil, List.drop_zero, List.drop_succ_cons, List.drop_nil, List.take_zero, List.take_succ_cons, List.take_nil, cond_true, cond_false, Bool.and_self, Bool.and_true, and_self, and_true, true_and, if_true, bind_some', Nat.add_zero, Nat.zero_add, Nat.reduceAdd, Nat.reduceLeDiff, ne_eq, not_false_eq_true, Nat.add_eq_zero_iff, Nat.reduceEqDiff, one_ne_zero', zero_ne_one', nne1, nne2, nne3, Nat.add_right_cancel_iff, Nat.add_left_cancel_iff, Nat.le_refl, reduceCtorEq, bind_some', aBin_lss, aBin_leq, aBin_gtr, aBin_geq, aBin_eql, aBin_neq, aBin_add, aBin_sub, aBin_mul, aBin_seql, aBin_sneq, aBinb_eql, aBinb_neq, aUn_not, aUn_neg, aSlen_str, extr0, extr1, extr2]))
  all_goals refine Ok.retb (by (try simp only [new_n', setN_n', st0_n', put_n'] at *); first | omega | exact Nat.le_succ _ | exact Nat.le_refl _) ?_
  all_goals grind [poseOk]

theorem IsName_spec_call (b : ByteArray) (hb : b.size ≤ 9223372036854775807) (n : Nat) : L.call i_spec_IsName [.str b] n = some (.bool (nameM b), n) := by
  rw [call_spec_IsName]
  have A := loop_all (fun i => L.loop [0, 3] [0, 2] b_spec_IsName_1 [.str b, .int .i64 i] (st0 n)) (nameAt b) b.size (.exit 0, [.str b, .undef], st0 n) (.ret, [.str b, .bool false], st0 n)
    (by
      rw [loop_spec_IsName_1]
      simp only [aSlen_str, bind_some', aBin_lss, cnd_dec, Int.lt_irrefl, if_false])
    (fun i hi => by
      rw [loop_spec_IsName_1]
      simp only [aSlen_str, bind_some', aBin_lss, aBin_geq, aBin_gtr, aBin_leq, aBin_eql, aBin_add, aUn_not, cnd_dec, cnd_ndec, aSidx_str hi]
      rw [if_pos (by omega), wrap64 (by omega) (by omega)]
      simp only [nameAt, byteAt_lt hi, cnd]
      generalize (b[i]).toNat = c
      simp only [decide_eq_true_eq, Bool.not_false]
      repeat' split
      all_goals first | rfl | omega)
    b.size 0 (by omega)
  rw [show ((0 : Nat) : Int) = 0 from rfl] at A
  rw [A]
  by_cases hA : allF (nameAt b) 0 b.size = true
  · rw [if_pos hA, bind_some', k_spec_IsName_1_0]
    simp only [aSlen_str, bind_some']
    rw [call_same (plain3 (plain_int _ _) (plain_int _ _) (plain_int _ _)) (l01In_call _ _ _ _)]
    simp only [nameM, hA, resTup_bool, bind_some', n_st0, Bool.and_true]
    congr 4
    simp only [eq_iff_iff]; omega
  · rw [if_neg hA, bind_some', k_spec_IsName_1_ret]
    simp only [nameM, hA, resTup_bool, bind_some', n_st0, Bool.and_false]

theorem IsPoseName_spec_call (b : ByteArray) (hb : b.size ≤ 9223372036854775807) (n : Nat) : L.call i_spec_IsPoseName [.str b] n = some (.bool (poseNameM b), n) := by
  rw [call_spec_IsPoseName, call_same (plain1 (plain_str _)) (IsName_spec_call b hb _)]
  simp only [bind_some', cnd_bool]
  by_cases hn : nameM b = true
  · have h0 : 0 < b.size := by
      simp only [nameM, Bool.and_eq_true, decide_eq_true_iff] at hn; omega
    have e := aSidx_str (k := .i64) h0
    rw [show ((0 : Nat) : Int) = 0 from rfl] at e
    rw [if_pos hn, e]
    simp only [bind_some', aBin_eql, resTup_bool, n_st0, poseNameM, hn, byteAt_lt h0, Bool.true_and]
    congr 4
    simp only [eq_iff_iff]; omega
  · rw [if_neg hn]
    simp only [bind_some', resTup_bool, n_st0, poseNameM, hn, Bool.false_and]
theorem cl_spec_IsPoseName (b : ByteArray) (hb : b.size ≤ 9223372036854775807) (st : St) : clV L i_spec_IsPoseName 0 [.str b] st = some (.bool (poseNameM b), st) :=
  call_same (plain1 (plain_str _)) (IsPoseName_spec_call b hb _)

theorem IsLandmarkName_spec_call (b : ByteArray) (hb : b.size ≤ 9223372036854775807) (n : Nat) : L.call i_spec_IsLandmarkName [.str b] n = some (.bool (landNameM b), n) := by
  rw [call_spec_IsLandmarkName, call_same (plain1 (plain_str _)) (IsName_spec_call b hb _)]
  simp only [bind_some', cnd_bool]
  by_cases hn : nameM b = true
  · have h0 : 0 < b.size := by
      simp only [nameM, Bool.and_eq_true, decide_eq_true_iff] at hn; omega
    have e := aSidx_str (k := .i64) h0
    rw [show ((0 : Nat) : Int) = 0 from rfl] at e
    rw [if_pos hn, e]
    simp only [bind_some', aBin_eql, resTup_bool, n_st0, landNameM, hn, byteAt_lt h0, Bool.true_and]
    congr 4
    simp only [eq_iff_iff]; omega
  · rw [if_neg hn]
    simp only [bind_some', resTup_bool, n_st0, landNameM, hn, Bool.false_and]
theorem cl_spec_IsLandmarkName (b : ByteArray) (hb : b.size ≤ 9223372036854775807) (st : St) : clV L i_spec_IsLandmarkName 0 [.str b] st = some (.bool (landNameM b), st) :=
  call_same (plain1 (plain_str _)) (IsLandmarkName_spec_call b hb _)

def facSm (f : Fac) : Prop := i64ok f.id ∧ i64ok f.kind ∧ f.frm.size ≤ 1048576 ∧ f.to.size ≤ 1048576 ∧ i64ok f.p.t ∧ i64ok f.p.x ∧ i64ok f.p.y ∧ i64ok f.w
def sm_FactorS (l : List Fac) : Prop := l.length ≤ 1048576 ∧ ∀ f ∈ l, facSm f

theorem IsPoseName_g_spec (b : ByteArray) (hb : b.size ≤ 1048576) : Gives i_spec_IsPoseName [.str b] (.bool (poseNameM b)) := Gives.of (IsPoseName_spec_call b (by omega))
theorem IsLandmarkName_g_spec (b : ByteArray) (hb : b.size ≤ 1048576) : Gives i_spec_IsLandmarkName [.str b] (.bool (landNameM b)) := Gives.of (IsLandmarkName_spec_call b (by omega))
theorem IsValidFactor_spec (f : Fac) (hf : f.frm.size ≤ 1048576) (ht : f.to.size ≤ 1048576) : Gives i_spec_IsValidFactor [facV f] (.bool (facOk f)) := by
  intro n
  rw [call_spec_IsValidFactor]
  simp only [facV, retV_one, retV_two, retV_three, mkNew_agg, mkNew_zc, ld_top, ld_old, ld_setN, sto_top, sto_old, sto_setN, faddr_ptr, faddr_eptr, ld_eptr, new_m', new_n', setN_m', setN_n', st0_m', st0_n', put_m', put_n', AV.cells, AV.one, AV.stor, ldCells, setElem, splice, List.all_cons, List.all_nil, List.length_cons, List.length_nil, List.drop, List.take, List.head?_cons, List.getElem?_cons_zero, List.getElem?_cons_succ, List.set_cons_zero, List.nil_append, List.cons_append, List.append_nil, List.drop_zero, List.drop_succ_cons, List.drop_nil, List.take_zero, List.take_succ_cons, List.take_nil, cond_true, cond_false, Bool.and_self, Bool.and_true, and_self, and_true, true_and, if_true, bind_some', Nat.add_zero, Nat.zero_add, Nat.reduceAdd, Nat.reduceLeDiff, ne_eq, not_false_eq_true, Nat.add_eq_zero_iff, Nat.reduceEqDiff, one_ne_zero', zero_ne_one', nne1, nne2, nne3, Nat.add_right_cancel_iff, Nat.add_left_cancel_iff, Nat.le_refl, reduceCtorEq, bind_some', aBin_lss, aBin_leq, aBin_gtr, aBin_geq, aBin_eql, aBin_neq, aBin_add, aBin_sub, aBin_mul, aBin_seql, aBin_sneq, aBinb_eql, aBinb_neq, aUn_not, aUn_neg, aSlen_str, extr0, extr1, extr2]
  repeat' first
    | (refine Ok.cnd (fun h => ?_) fun h => ?_) | (refine Ok.cndn (fun h => ?_) fun h => ?_) | (refine Ok.cndb (fun h => ?_) fun h => ?_) | (refine Ok.cndnb (fun h => ?_) fun h => ?_)
    | (refine Ok.gives (IsValidPose_spec f.p) (pB rfl) fun m hm => ?_; (simp only [retV_one, retV_two, retV_three, mkNew_agg, mkNew_zc, ld_top, ld_old, ld_setN, sto_top, sto_old, sto_setN, faddr_ptr, faddr_eptr, ld_eptr, new_m', new_n', setN_m', setN_n', st0_m', st0_n', put_m', put_n', AV.cells, AV.one, AV.stor, ldCells, setElem, splice, List.all_cons, List.all_nil, List.length_cons, List.length_nil, List.drop, List.take, List.head?_cons, List.getElem?_cons_zero, List.getElem?_cons_succ, List.set_cons_zero, List.nil_append, List.cons_append, List.append_nil, List.drop_zero, List.drop_succ_cons, List.drop_nil, List.take_zero, List.take_succ_cons, List.take_nil, cond_true, cond_false, Bool.and_self, Bool.and_true, and_self, and_true, true_and, if_true, bind_some', Nat.add_zero, Nat.zero_add, Nat.reduceAdd, Nat.reduceLeDiff, ne_eq, not_false_eq_true, Nat.add_eq_zero_iff, Nat.reduceEqDiff, one_ne_zero', zero_ne_one', nne1, nne2, nne3, Nat.add_right_cancel_iff, Nat.add_left_cancel_iff, Nat.le_refl, reduceCtorEq, bind_some', aBin_lss, aBin_leq, aBin_gtr, aBin_geq, aBin_eql, aBin_neq, aBin_add, aBin_sub, aBin_mul, aBin_seql, aBin_sneq, aBinb_eql, aBinb_neq, aUn_not, aUn_neg, aSlen_str, extr0, extr1, extr2]))
    | (refine Ok.gives (IsPoseName_g_spec _ hf) (pB rfl) fun m hm => ?_; (simp only [retV_one, retV_two, retV_three, mkNew_agg, mkNew_zc, ld_top, ld_old, ld_setN, sto_top, sto_old, sto_setN, faddr_ptr, faddr_eptr, ld_eptr, new_m', new_n', setN_m', setN_n', st0_m', st0_n', put_m', put_n', AV.cells, AV.one, AV.stor, ldCells, setElem, splice, List.all_cons, List.all_nil, List.length_cons, List.length_nil, List.drop, List.take, List.head?_cons, List.getElem?_cons_zero, List.getElem?_cons_succ, List.set_cons_zero, List.nil_append, List.cons_append, List.append_nil, List.drop_zero, List.drop_succ_cons, List.drop_nil, List.take_zero, List.take_succ_cons, List.take_nil, cond_true, cond_false, Bool.and_self, Bool.and_true, and_self, and_true, true_and, if_true, bind_some', Nat.add_zero, Nat.zero_add, Nat.reduceAdd, Nat.reduceLeDiff, ne_eq, not_false_eq_true, Nat.add_eq_zero_iff, Nat.reduceEqDiff, one_ne_zero', zero_ne_one', nne1, nne2, nne3, Nat.add_right_cancel_iff, Nat.add_left_cancel_iff, Nat.le_refl, reduceCtorEq, bind_some', aBin_lss, aBin_leq, aBin_gtr, aBin_geq, aBin_eql, aBin_neq, aBin_add, aBin_sub, aBin_mul, aBin_seql, aBin_sneq, aBinb_eql, aBinb_neq, aUn_not, aUn_neg, aSlen_str, extr0, extr1, extr2]))
    | (refine Ok.gives (IsPoseName_g_spec _ ht) (pB rfl) fun m hm => ?_; (simp only [retV_one, retV_two, retV_three, mkNew_agg, mkNew_zc, ld_top, ld_old, ld_setN, sto_top, sto_old, sto_setN, faddr_ptr, faddr_eptr, ld_eptr, new_m', new_n', setN_m', setN_n', st0_m', st0_n', put_m', put_n', AV.cells, AV.one, AV.stor, ldCells, setElem, splice, List.all_cons, List.all_nil, List.length_cons, List.length_nil, List.drop, List.take, List.head?_cons, List.getElem?_cons_zero, List.getElem?_cons_succ, List.set_cons_zero, List.nil_append, List.cons_append, List.append_nil, List.drop_zero, List.drop_succ_cons, List.drop_nil, List.take_zero, List.take_succ_cons, List.take_nil, cond_true, cond_false, Bool.and_self, Bool.and_true, and_self, and_true, true_and, if_true, bind_some', Nat.add_zero, Nat.zero_add, Nat.reduceAdd, Nat.reduceLeDiff, ne_eq, not_false_eq_true, Nat.add_eq_zero_iff, Nat.reduceEqDiff, one_ne_zero', zero_ne_one', nne1, nne2, nne3, Nat.add_right_cancel_iff, Nat.add_left_cancel_iff, Nat.le_refl, reduceCtorEq, bind_some', aBin_lss, aBin_leq, aBin_gtr, aBin_geq, aBin_eql, aBin_neq, aBin_add, aBin_sub, aBin_mul, aBin_seql, aBin_sneq, aBinb_eql, aBinb_neq, aUn_not, aUn_neg, aSlen_str, extr0, extr1, extr2]))
    | (refine Ok.gives (IsLandmarkName_g_spec _ ht) (pB rfl) fun m hm => ?_; (simp only [retV_one, retV_two, retV_three, mkNew_agg, mkNew_zc, ld_top, ld_old, ld_setN, sto_top, sto_old, sto_setN, faddr_ptr, faddr_eptr, ld_eptr, new_m', new_n', setN_m', setN_n', st0_m', st0_n', put_m', put_n', AV.cells, AV.one, AV.stor, ldCells, setElem, splice, List.all_cons, List.all_nil, List.length_cons, List.length_nil, List.drop, List.take, List.head?_cons, List.getElem?_cons_zero, List.getElem?_cons_succ, List.set_cons_zero, List.nil_append, List.cons_append, List.append_nil, List.drop_zero, List.drop_succ_cons, List.drop_nil, List.take_zero, List.take_succ_cons, List.take_nil, cond_true, cond_false, Bool.and_self, Bool.and_true, and_self, and_true, true_and, if_true, bind_some', Nat.add_zero, Nat.zero_add, Nat.reduceAdd, Nat.reduceLeDiff, ne_eq, not_false_eq_true, Nat.add_eq_zero_iff, Nat.reduceEqDiff, one_ne_zero', zero_ne_one', nne1, nne2, nne3, Nat.add_right_cancel_iff, Nat.add_left_cancel_iff, Nat.le_refl, reduceCtorEq, bind_some', aBin_lss, aBin_leq, aBin_gtr, aBin_geq, aBin_eql, aBin_neq, aBin_add, aBin_sub, aBin_mul, aBin_seql, aBin_sneq, aBinb_eql, aBinb_neq, aUn_not, aUn_neg, aSlen_str, extr0, extr1, extr2]))
    | (refine Ok.gives (l01In_g _ _ _) (pB rfl) fun m hm => ?_; (simp only [retV_one, retV_two, retV_three, mkNew_agg, mkNew_zc, ld_top, ld_old, ld_setN, sto_top, sto_old, sto_setN, faddr_ptr, faddr_eptr, ld_eptr, new_m', new_n', setN_m', setN_n', st0_m', st0_n', put_m', put_n', AV.cells, AV.one, AV.stor, ldCells, setElem, splice, List.all_cons, List.all_nil, List.length_cons, List.length_nil, List.drop, List.take, List.head?_cons, List.getElem?_cons_zero, List.getElem?_cons_succ, List.set_cons_zero, List.nil_append, List.cons_append, List.append_nil, List.drop_zero, List.drop_succ_cons, List.drop_nil, List.take_zero, List.take_succ_cons, List.take_nil, cond_true, cond_false, Bool.and_self, Bool.and_true, and_self, and_true, true_and, if_true, bind_some', Nat.add_zero, Nat.zero_add, Nat.reduceAdd, Nat.reduceLeDiff, ne_eq, not_false_eq_true, Nat.add_eq_zero_iff, Nat.reduceEqDiff, one_ne_zero', zero_ne_one', nne1, nne2, nne3, Nat.add_right_cancel_iff, Nat.add_left_cancel_iff, Nat.le_refl, reduceCtorEq, bind_some', aBin_lss, aBin_leq, aBin_gtr, aBin_geq, aBin_eql, aBin_neq, aBin_add, aBin_sub, aBin_mul, aBin_seql, aBin_sneq, aBinb_eql, aBinb_neq, aUn_not, aUn_neg, aSlen_str, extr0, extr1, extr2]))
  all_goals refine Ok.retb (by (try simp only [new_n', setN_n', st0_n', put_n'] at *); first | omega | exact Nat.le_succ _ | exact Nat.le_refl _) ?_
  all_goals grind [facOk, poseOk]

theorem ObservationFactor_spec (p : ByteArray) (x y w : Int) (nm : ByteArray) (id : Int) (hp : p.size ≤ 1048576) (hn : nm.size ≤ 1048576) : Gives i_spec_ObservationFactor [.str p, obsV x y w, .str nm, .int .i64 id] (facV (obsFacM p x y w nm id)) := by
  intro n
  rw [call_spec_ObservationFactor]
  simp only [obsV, mkBuild, retV_one, retV_two, retV_three, mkNew_agg, mkNew_zc, ld_top, ld_old, ld_setN, sto_top, sto_old, sto_setN, faddr_ptr, faddr_eptr, ld_eptr, new_m', new_n', setN_m', setN_n', st0_m', st0_n', put_m', put_n', AV.cells, AV.one, AV.stor, ldCells, setElem, splice, List.all_cons, List.all_nil, List.length_cons, List.length_nil, List.drop, List.take, List.head?_cons, List.getElem?_cons_zero, List.getElem?_cons_succ, List.set_cons_zero, List.nil_append, List.cons_append, List.append_nil, List.drop_zero, List.drop_succ_cons, List.drop_nil, List.take_zero, List.take_succ_cons, List.take_nil, cond_true, cond_false, Bool.and_self, Bool.and_true, and_self, and_true, true_and, if_true, bind_some', Nat.add_zero, Nat.zero_add, Nat.reduceAdd, Nat.reduceLeDiff, ne_eq, not_false_eq_true, Nat.add_eq_zero_iff, Nat.reduceEqDiff, one_ne_zero', zero_ne_one', nne1, nne2, nne3, Nat.add_right_cancel_iff, Nat.add_left_cancel_iff, Nat.le_refl, reduceCtorEq, bind_some', aBin_lss, aBin_leq, aBin_gtr, aBin_geq, aBin_eql, aBin_neq, aBin_add, aBin_sub, aBin_mul, aBin_seql, aBin_sneq, aBinb_eql, aBinb_neq, aUn_not, aUn_neg, aSlen_str, extr0, extr1, extr2]
  refine Ok.gives (IsValidFactor_spec (obsFac p x y w nm id) hp hn) (pB rfl) fun m hm => ?_
  simp only [retV_one, retV_two, retV_three, mkNew_agg, mkNew_zc, ld_top, ld_old, ld_setN, sto_top, sto_old, sto_setN, faddr_ptr, faddr_eptr, ld_eptr, new_m', new_n', setN_m', setN_n', st0_m', st0_n', put_m', put_n', AV.cells, AV.one, AV.stor, ldCells, setElem, splice, List.all_cons, List.all_nil, List.length_cons, List.length_nil, List.drop, List.take, List.head?_cons, List.getElem?_cons_zero, List.getElem?_cons_succ, List.set_cons_zero, List.nil_append, List.cons_append, List.append_nil, List.drop_zero, List.drop_succ_cons, List.drop_nil, List.take_zero, List.take_succ_cons, List.take_nil, cond_true, cond_false, Bool.and_self, Bool.and_true, and_self, and_true, true_and, if_true, bind_some', Nat.add_zero, Nat.zero_add, Nat.reduceAdd, Nat.reduceLeDiff, ne_eq, not_false_eq_true, Nat.add_eq_zero_iff, Nat.reduceEqDiff, one_ne_zero', zero_ne_one', nne1, nne2, nne3, Nat.add_right_cancel_iff, Nat.add_left_cancel_iff, Nat.le_refl, reduceCtorEq, bind_some', aBin_lss, aBin_leq, aBin_gtr, aBin_geq, aBin_eql, aBin_neq, aBin_add, aBin_sub, aBin_mul, aBin_seql, aBin_sneq, aBinb_eql, aBinb_neq, aUn_not, aUn_neg, aSlen_str, extr0, extr1, extr2]
  refine Ok.cndnb (fun h => ?_) fun h => ?_
  · (try simp only [retV_one, retV_two, retV_three, mkNew_agg, mkNew_zc, ld_top, ld_old, ld_setN, sto_top, sto_old, sto_setN, faddr_ptr, faddr_eptr, ld_eptr, new_m', new_n', setN_m', setN_n', st0_m', st0_n', put_m', put_n', AV.cells, AV.one, AV.stor, ldCells, setElem, splice, List.all_cons, List.all_nil, List.length_cons, List.length_nil, List.drop, List.take, List.head?_cons, List.getElem?_cons_zero, List.getElem?_cons_succ, List.set_cons_zero, List.nil_append, List.cons_append, List.append_nil, List.drop_zero, List.drop_succ_cons, List.drop_nil, List.take_zero, List.take_succ_cons, List.take_nil, cond_true, cond_false, Bool.and_self, Bool.and_true, and_self, and_true, true_and, if_true, bind_some', Nat.add_zero, Nat.zero_add, Nat.reduceAdd, Nat.reduceLeDiff, ne_eq, not_false_eq_true, Nat.add_eq_zero_iff, Nat.reduceEqDiff, one_ne_zero', zero_ne_one', nne1, nne2, nne3, Nat.add_right_cancel_iff, Nat.add_left_cancel_iff, Nat.le_refl, reduceCtorEq, bind_some', aBin_lss, aBin_leq, aBin_gtr, aBin_geq, aBin_eql, aBin_neq, aBin_add, aBin_sub, aBin_mul, aBin_seql, aBin_sneq, aBinb_eql, aBinb_neq, aUn_not, aUn_neg, aSlen_str, extr0, extr1, extr2])
    refine Ok.ret (by first | rfl | (simp only [retV_one, retV_two, retV_three]; rfl)) (by (try simp only [new_n', setN_n', st0_n', put_n'] at *); first | omega | exact Nat.le_succ _ | exact Nat.le_refl _) ?_
    rw [obsFacM, if_neg (by rw [h]; exact Bool.false_ne_true)]; rfl
  · (try simp only [retV_one, retV_two, retV_three, mkNew_agg, mkNew_zc, ld_top, ld_old, ld_setN, sto_top, sto_old, sto_setN, faddr_ptr, faddr_eptr, ld_eptr, new_m', new_n', setN_m', setN_n', st0_m', st0_n', put_m', put_n', AV.cells, AV.one, AV.stor, ldCells, setElem, splice, List.all_cons, List.all_nil, List.length_cons, List.length_nil, List.drop, List.take, List.head?_cons, List.getElem?_cons_zero, List.getElem?_cons_succ, List.set_cons_zero, List.nil_append, List.cons_append, List.append_nil, List.drop_zero, List.drop_succ_cons, List.drop_nil, List.take_zero, List.take_succ_cons, List.take_nil, cond_true, cond_false, Bool.and_self, Bool.and_true, and_self, and_true, true_and, if_true, bind_some', Nat.add_zero, Nat.zero_add, Nat.reduceAdd, Nat.reduceLeDiff, ne_eq, not_false_eq_true, Nat.add_eq_zero_iff, Nat.reduceEqDiff, one_ne_zero', zero_ne_one', nne1, nne2, nne3, Nat.add_right_cancel_iff, Nat.add_left_cancel_iff, Nat.le_refl, reduceCtorEq, bind_some', aBin_lss, aBin_leq, aBin_gtr, aBin_geq, aBin_eql, aBin_neq, aBin_add, aBin_sub, aBin_mul, aBin_seql, aBin_sneq, aBinb_eql, aBinb_neq, aUn_not, aUn_neg, aSlen_str, extr0, extr1, extr2])
    refine Ok.ret (by first | rfl | (simp only [retV_one, retV_two, retV_three]; rfl)) (by (try simp only [new_n', setN_n', st0_n', put_n'] at *); first | omega | exact Nat.le_succ _ | exact Nat.le_refl _) ?_
    rw [obsFacM, if_pos h]; rfl

theorem inRange_ok (x : Int) : Gives i_impl_inRange [.int .i64 x] (.bool (decide (-1000000 ≤ x ∧ x ≤ 1000000))) := by
  intro n
  rw [call_impl_inRange]
  simp only [bind_some', aBin_lss, aBin_leq, aBin_gtr, aBin_geq, aBin_eql, aBin_neq, aBin_add, aBin_sub, aBin_mul, aBin_seql, aBin_sneq, aBinb_eql, aBinb_neq, aUn_not, aUn_neg, aSlen_str, extr0, extr1, extr2]
  refine Ok.cnd (fun h => ?_) fun h => ?_
  · exact Ok.retb (Nat.le_refl _) (by simp [h])
  · exact Ok.retb (Nat.le_refl _) (by simp [h])
theorem IsValidPose_impl (p : Pos) : Gives i_impl_IsValidPose [poseV p] (.bool (poseOk p)) := by
  intro n
  rw [call_impl_IsValidPose]
  simp only [poseV, retV_one, retV_two, retV_three, mkNew_agg, mkNew_zc, ld_top, ld_old, ld_setN, sto_top, sto_old, sto_setN, faddr_ptr, faddr_eptr, ld_eptr, new_m', new_n', setN_m', setN_n', st0_m', st0_n', put_m', put_n', AV.cells, AV.one, AV.stor, ldCells, setElem, splice, List.all_cons, List.all_nil, List.length_cons, List.length_nil, List.drop, List.take, List.head?_cons, List.getElem?_cons_zero, List.getElem?_cons_succ, List.set_cons_zero, List.nil_append, List.cons_append, List.append_nil, List.drop_zero, List.drop_succ_cons, List.drop_nil, List.take_zero, List.take_succ_cons, List.take_nil, cond_true, cond_false, Bool.and_self, Bool.and_true, and_self, and_true, true_and, if_true, bind_some', Nat.add_zero, Nat.zero_add, Nat.reduceAdd, Nat.reduceLeDiff, ne_eq, not_false_eq_true, Nat.add_eq_zero_iff, Nat.reduceEqDiff, one_ne_zero', zero_ne_one', nne1, nne2, nne3, Nat.add_right_cancel_iff, Nat.add_left_cancel_iff, Nat.le_refl, reduceCtorEq, bind_some', aBin_lss, aBin_leq, aBin_gtr, aBin_geq, aBin_eql, aBin_neq, aBin_add, aBin_sub, aBin_mul, aBin_seql, aBin_sneq, aBinb_eql, aBinb_neq, aUn_not, aUn_neg, aSlen_str, extr0, extr1, extr2]
  repeat' first
    | (refine Ok.cnd (fun h => ?_) fun h => ?_) | (refine Ok.cndn (fun h => ?_) fun h => ?_) | (refine Ok.cndb (fun h => ?_) fun h => ?_) | (refine Ok.cndnb (fun h => ?_) fun h => ?_)
    | (refine Ok.gives (inRange_ok _) (pB rfl) fun m hm => ?_; (simp only [retV_one, retV_two, retV_three, mkNew_agg, mkNew_zc, ld_top, ld_old, ld_setN, sto_top, sto_old, sto_setN, faddr_ptr, faddr_eptr, ld_eptr, new_m', new_n', setN_m', setN_n', st0_m', st0_n', put_m', put_n', AV.cells, AV.one, AV.stor, ldCells, setElem, splice, List.all_cons, List.all_nil, List.length_cons, List.length_nil, List.drop, List.take, List.head?_cons, List.getElem?_cons_zero, List.getElem?_cons_succ, List.set_cons_zero, List.nil_append, List.cons_append, List.append_nil, List.drop_zero, List.drop_succ_cons, List.drop_nil, List.take_zero, List.take_succ_cons, List.take_nil, cond_true, cond_false, Bool.and_self, Bool.and_true, and_self, and_true, true_and, if_true, bind_some', Nat.add_zero, Nat.zero_add, Nat.reduceAdd, Nat.reduceLeDiff, ne_eq, not_false_eq_true, Nat.add_eq_zero_iff, Nat.reduceEqDiff, one_ne_zero', zero_ne_one', nne1, nne2, nne3, Nat.add_right_cancel_iff, Nat.add_left_cancel_iff, Nat.le_refl, reduceCtorEq, bind_some', aBin_lss, aBin_leq, aBin_gtr, aBin_geq, aBin_eql, aBin_neq, aBin_add, aBin_sub, aBin_mul, aBin_seql, aBin_sneq, aBinb_eql, aBinb_neq, aUn_not, aUn_neg, aSlen_str, extr0, extr1, extr2]))
  all_goals refine Ok.retb (by (try simp only [new_n', setN_n', st0_n', put_n'] at *); first | omega | exact Nat.le_succ _ | exact Nat.le_refl _) ?_
  all_goals grind [poseOk]

theorem IsName_impl_call (b : ByteArray) (hb : b.size ≤ 9223372036854775807) (n : Nat) : L.call i_impl_IsName [.str b] n = some (.bool (nameM b), n) := by
  rw [call_impl_IsName]
  simp only [aSlen_str, bind_some', aBin_lss, aBin_gtr, cnd_dec]
  by_cases h1 : (b.size : Int) < 1
  · rw [if_pos h1]
    have : ¬ (1 ≤ b.size ∧ b.size ≤ 8) := by omega
    simp only [nameM, this, decide_false, Bool.false_and, resTup_bool, bind_some', n_st0]
  rw [if_neg h1]
  by_cases h2 : (8 : Int) < b.size
  · rw [if_pos h2]
    have : ¬ (1 ≤ b.size ∧ b.size ≤ 8) := by omega
    simp only [nameM, this, decide_false, Bool.false_and, resTup_bool, bind_some', n_st0]
  rw [if_neg h2]
  have h3 : (1 ≤ b.size ∧ b.size ≤ 8) := by omega
  have A := loop_all (fun i => L.loop [0, 3] [2] b_impl_IsName_1 [.str b, .int .i64 i] (st0 n)) (nameAt b) b.size (.exit 0, [.undef], st0 n) (.ret, [.bool false], st0 n)
    (by
      rw [loop_impl_IsName_1]
      simp only [aSlen_str, bind_some', aBin_lss, cnd_dec, Int.lt_irrefl, if_false])
    (fun i hi => by
      rw [loop_impl_IsName_1]
      simp only [aSlen_str, bind_some', aBin_lss, aBin_geq, aBin_gtr, aBin_leq, aBin_eql, aBin_add, aUn_not, cnd_dec, cnd_ndec, aSidx_str hi]
      rw [if_pos (by omega), wrap64 (by omega) (by omega)]
      simp only [nameAt, byteAt_lt hi, cnd]
      generalize (b[i]).toNat = c
      simp only [decide_eq_true_eq, Bool.not_false]
      repeat' split
      all_goals first | rfl | omega)
    b.size 0 (by omega)
  rw [show ((0 : Nat) : Int) = 0 from rfl] at A
  rw [A]
  by_cases hA : allF (nameAt b) 0 b.size = true
  · rw [if_pos hA, bind_some', k_impl_IsName_1_0]
    simp only [nameM, hA, h3, resTup_bool, bind_some', n_st0, Bool.and_true, decide_true, and_self]
  · rw [if_neg hA, bind_some', k_impl_IsName_1_ret]
    simp only [nameM, hA, resTup_bool, bind_some', n_st0, Bool.and_false]

theorem IsPoseName_impl_call (b : ByteArray) (hb : b.size ≤ 9223372036854775807) (n : Nat) : L.call i_impl_IsPoseName [.str b] n = some (.bool (poseNameM b), n) := by
  rw [call_impl_IsPoseName, call_same (plain1 (plain_str _)) (IsName_impl_call b hb _)]
  simp only [bind_some', cnd_bool]
  by_cases hn : nameM b = true
  · have h0 : 0 < b.size := by
      simp only [nameM, Bool.and_eq_true, decide_eq_true_iff] at hn; omega
    have e := aSidx_str (k := .i64) h0
    rw [show ((0 : Nat) : Int) = 0 from rfl] at e
    rw [if_pos hn, e]
    simp only [bind_some', aBin_eql, resTup_bool, n_st0, poseNameM, hn, byteAt_lt h0, Bool.true_and]
    congr 4
    simp only [eq_iff_iff]; omega
  · rw [if_neg hn]
    simp only [bind_some', resTup_bool, n_st0, poseNameM, hn, Bool.false_and]
theorem cl_impl_IsPoseName (b : ByteArray) (hb : b.size ≤ 9223372036854775807) (st : St) : clV L i_impl_IsPoseName 0 [.str b] st = some (.bool (poseNameM b), st) :=
  call_same (plain1 (plain_str _)) (IsPoseName_impl_call b hb _)

theorem IsLandmarkName_impl_call (b : ByteArray) (hb : b.size ≤ 9223372036854775807) (n : Nat) : L.call i_impl_IsLandmarkName [.str b] n = some (.bool (landNameM b), n) := by
  rw [call_impl_IsLandmarkName, call_same (plain1 (plain_str _)) (IsName_impl_call b hb _)]
  simp only [bind_some', cnd_bool]
  by_cases hn : nameM b = true
  · have h0 : 0 < b.size := by
      simp only [nameM, Bool.and_eq_true, decide_eq_true_iff] at hn; omega
    have e := aSidx_str (k := .i64) h0
    rw [show ((0 : Nat) : Int) = 0 from rfl] at e
    rw [if_pos hn, e]
    simp only [bind_some', aBin_eql, resTup_bool, n_st0, landNameM, hn, byteAt_lt h0, Bool.true_and]
    congr 4
    simp only [eq_iff_iff]; omega
  · rw [if_neg hn]
    simp only [bind_some', resTup_bool, n_st0, landNameM, hn, Bool.false_and]
theorem cl_impl_IsLandmarkName (b : ByteArray) (hb : b.size ≤ 9223372036854775807) (st : St) : clV L i_impl_IsLandmarkName 0 [.str b] st = some (.bool (landNameM b), st) :=
  call_same (plain1 (plain_str _)) (IsLandmarkName_impl_call b hb _)

theorem IsPoseName_g_impl (b : ByteArray) (hb : b.size ≤ 1048576) : Gives i_impl_IsPoseName [.str b] (.bool (poseNameM b)) := Gives.of (IsPoseName_impl_call b (by omega))
theorem IsLandmarkName_g_impl (b : ByteArray) (hb : b.size ≤ 1048576) : Gives i_impl_IsLandmarkName [.str b] (.bool (landNameM b)) := Gives.of (IsLandmarkName_impl_call b (by omega))
theorem IsValidFactor_impl (f : Fac) (hf : f.frm.size ≤ 1048576) (ht : f.to.size ≤ 1048576) : Gives i_impl_IsValidFactor [facV f] (.bool (facOk f)) := by
  intro n
  rw [call_impl_IsValidFactor]
  simp only [facV, retV_one, retV_two, retV_three, mkNew_agg, mkNew_zc, ld_top, ld_old, ld_setN, sto_top, sto_old, sto_setN, faddr_ptr, faddr_eptr, ld_eptr, new_m', new_n', setN_m', setN_n', st0_m', st0_n', put_m', put_n', AV.cells, AV.one, AV.stor, ldCells, setElem, splice, List.all_cons, List.all_nil, List.length_cons, List.length_nil, List.drop, List.take, List.head?_cons, List.getElem?_cons_zero, List.getElem?_cons_succ, List.set_cons_zero, List.nil_append, List.cons_append, List.append_nil, List.drop_zero, List.drop_succ_cons, List.drop_nil, List.take_zero, List.take_succ_cons, List.take_nil, cond_true, cond_false, Bool.and_self, Bool.and_true, and_self, and_true, true_and, if_true, bind_some', Nat.add_zero, Nat.zero_add, Nat.reduceAdd, Nat.reduceLeDiff, ne_eq, not_false_eq_true, Nat.add_eq_zero_iff, Nat.reduceEqDiff, one_ne_zero', zero_ne_one', nne1, nne2, nne3, Nat.add_right_cancel_iff, Nat.add_left_cancel_iff, Nat.le_refl, reduceCtorEq, bind_some', aBin_lss, aBin_leq, aBin_gtr, aBin_geq, aBin_eql, aBin_neq, aBin_add, aBin_sub, aBin_mul, aBin_seql, aBin_sneq, aBinb_eql, aBinb_neq, aUn_not, aUn_neg, aSlen_str, extr0, extr1, extr2]
  repeat' first
    | (refine Ok.cnd (fun h => ?_) fun h => ?_) | (refine Ok.cndn (fun h => ?_) fun h => ?_) | (refine Ok.cndb (fun h => ?_) fun h => ?_) | (refine Ok.cndnb (fun h => ?_) fun h => ?_)
    | (refine Ok.gives (IsValidPose_impl f.p) (pB rfl) fun m hm => ?_; (simp only [retV_one, retV_two, retV_three, mkNew_agg, mkNew_zc, ld_top, ld_old, ld_setN, sto_top, sto_old, sto_setN, faddr_ptr, faddr_eptr, ld_eptr, new_m', new_n', setN_m', setN_n', st0_m', st0_n', put_m', put_n', AV.cells, AV.one, AV.stor, ldCells, setElem, splice, List.all_cons, List.all_nil, List.length_cons, List.length_nil, List.drop, List.take, List.head?_cons, List.getElem?_cons_zero, List.getElem?_cons_succ, List.set_cons_zero, List.nil_append, List.cons_append, List.append_nil, List.drop_zero, List.drop_succ_cons, List.drop_nil, List.take_zero, List.take_succ_cons, List.take_nil, cond_true, cond_false, Bool.and_self, Bool.and_true, and_self, and_true, true_and, if_true, bind_some', Nat.add_zero, Nat.zero_add, Nat.reduceAdd, Nat.reduceLeDiff, ne_eq, not_false_eq_true, Nat.add_eq_zero_iff, Nat.reduceEqDiff, one_ne_zero', zero_ne_one', nne1, nne2, nne3, Nat.add_right_cancel_iff, Nat.add_left_cancel_iff, Nat.le_refl, reduceCtorEq, bind_some', aBin_lss, aBin_leq, aBin_gtr, aBin_geq, aBin_eql, aBin_neq, aBin_add, aBin_sub, aBin_mul, aBin_seql, aBin_sneq, aBinb_eql, aBinb_neq, aUn_not, aUn_neg, aSlen_str, extr0, extr1, extr2]))
    | (refine Ok.gives (IsPoseName_g_impl _ hf) (pB rfl) fun m hm => ?_; (simp only [retV_one, retV_two, retV_three, mkNew_agg, mkNew_zc, ld_top, ld_old, ld_setN, sto_top, sto_old, sto_setN, faddr_ptr, faddr_eptr, ld_eptr, new_m', new_n', setN_m', setN_n', st0_m', st0_n', put_m', put_n', AV.cells, AV.one, AV.stor, ldCells, setElem, splice, List.all_cons, List.all_nil, List.length_cons, List.length_nil, List.drop, List.take, List.head?_cons, List.getElem?_cons_zero, List.getElem?_cons_succ, List.set_cons_zero, List.nil_append, List.cons_append, List.append_nil, List.drop_zero, List.drop_succ_cons, List.drop_nil, List.take_zero, List.take_succ_cons, List.take_nil, cond_true, cond_false, Bool.and_self, Bool.and_true, and_self, and_true, true_and, if_true, bind_some', Nat.add_zero, Nat.zero_add, Nat.reduceAdd, Nat.reduceLeDiff, ne_eq, not_false_eq_true, Nat.add_eq_zero_iff, Nat.reduceEqDiff, one_ne_zero', zero_ne_one', nne1, nne2, nne3, Nat.add_right_cancel_iff, Nat.add_left_cancel_iff, Nat.le_refl, reduceCtorEq, bind_some', aBin_lss, aBin_leq, aBin_gtr, aBin_geq, aBin_eql, aBin_neq, aBin_add, aBin_sub, aBin_mul, aBin_seql, aBin_sneq, aBinb_eql, aBinb_neq, aUn_not, aUn_neg, aSlen_str, extr0, extr1, extr2]))
    | (refine Ok.gives (IsPoseName_g_impl _ ht) (pB rfl) fun m hm => ?_; (simp only [retV_one, retV_two, retV_three, mkNew_agg, mkNew_zc, ld_top, ld_old, ld_setN, sto_top, sto_old, sto_setN, faddr_ptr, faddr_eptr, ld_eptr, new_m', new_n', setN_m', setN_n', st0_m', st0_n', put_m', put_n', AV.cells, AV.one, AV.stor, ldCells, setElem, splice, List.all_cons, List.all_nil, List.length_cons, List.length_nil, List.drop, List.take, List.head?_cons, List.getElem?_cons_zero, List.getElem?_cons_succ, List.set_cons_zero, List.nil_append, List.cons_append, List.append_nil, List.drop_zero, List.drop_succ_cons, List.drop_nil, List.take_zero, List.take_succ_cons, List.take_nil, cond_true, cond_false, Bool.and_self, Bool.and_true, and_self, and_true, true_and, if_true, bind_some', Nat.add_zero, Nat.zero_add, Nat.reduceAdd, Nat.reduceLeDiff, ne_eq, not_false_eq_true, Nat.add_eq_zero_iff, Nat.reduceEqDiff, one_ne_zero', zero_ne_one', nne1, nne2, nne3, Nat.add_right_cancel_iff, Nat.add_left_cancel_iff, Nat.le_refl, reduceCtorEq, bind_some', aBin_lss, aBin_leq, aBin_gtr, aBin_geq, aBin_eql, aBin_neq, aBin_add, aBin_sub, aBin_mul, aBin_seql, aBin_sneq, aBinb_eql, aBinb_neq, aUn_not, aUn_neg, aSlen_str, extr0, extr1, extr2]))
    | (refine Ok.gives (IsLandmarkName_g_impl _ ht) (pB rfl) fun m hm => ?_; (simp only [retV_one, retV_two, retV_three, mkNew_agg, mkNew_zc, ld_top, ld_old, ld_setN, sto_top, sto_old, sto_setN, faddr_ptr, faddr_eptr, ld_eptr, new_m', new_n', setN_m', setN_n', st0_m', st0_n', put_m', put_n', AV.cells, AV.one, AV.stor, ldCells, setElem, splice, List.all_cons, List.all_nil, List.length_cons, List.length_nil, List.drop, List.take, List.head?_cons, List.getElem?_cons_zero, List.getElem?_cons_succ, List.set_cons_zero, List.nil_append, List.cons_append, List.append_nil, List.drop_zero, List.drop_succ_cons, List.drop_nil, List.take_zero, List.take_succ_cons, List.take_nil, cond_true, cond_false, Bool.and_self, Bool.and_true, and_self, and_true, true_and, if_true, bind_some', Nat.add_zero, Nat.zero_add, Nat.reduceAdd, Nat.reduceLeDiff, ne_eq, not_false_eq_true, Nat.add_eq_zero_iff, Nat.reduceEqDiff, one_ne_zero', zero_ne_one', nne1, nne2, nne3, Nat.add_right_cancel_iff, Nat.add_left_cancel_iff, Nat.le_refl, reduceCtorEq, bind_some', aBin_lss, aBin_leq, aBin_gtr, aBin_geq, aBin_eql, aBin_neq, aBin_add, aBin_sub, aBin_mul, aBin_seql, aBin_sneq, aBinb_eql, aBinb_neq, aUn_not, aUn_neg, aSlen_str, extr0, extr1, extr2]))
  all_goals refine Ok.retb (by (try simp only [new_n', setN_n', st0_n', put_n'] at *); first | omega | exact Nat.le_succ _ | exact Nat.le_refl _) ?_
  all_goals grind [facOk, poseOk]

theorem ObservationFactor_impl (p : ByteArray) (x y w : Int) (nm : ByteArray) (id : Int) (hp : p.size ≤ 1048576) (hn : nm.size ≤ 1048576) : Gives i_impl_ObservationFactor [.str p, obsV x y w, .str nm, .int .i64 id] (facV (obsFacM p x y w nm id)) := by
  intro n
  rw [call_impl_ObservationFactor]
  simp only [obsV, mkBuild, retV_one, retV_two, retV_three, mkNew_agg, mkNew_zc, ld_top, ld_old, ld_setN, sto_top, sto_old, sto_setN, faddr_ptr, faddr_eptr, ld_eptr, new_m', new_n', setN_m', setN_n', st0_m', st0_n', put_m', put_n', AV.cells, AV.one, AV.stor, ldCells, setElem, splice, List.all_cons, List.all_nil, List.length_cons, List.length_nil, List.drop, List.take, List.head?_cons, List.getElem?_cons_zero, List.getElem?_cons_succ, List.set_cons_zero, List.nil_append, List.cons_append, List.append_nil, List.drop_zero, List.drop_succ_cons, List.drop_nil, List.take_zero, List.take_succ_cons, List.take_nil, cond_true, cond_false, Bool.and_self, Bool.and_true, and_self, and_true, true_and, if_true, bind_some', Nat.add_zero, Nat.zero_add, Nat.reduceAdd, Nat.reduceLeDiff, ne_eq, not_false_eq_true, Nat.add_eq_zero_iff, Nat.reduceEqDiff, one_ne_zero', zero_ne_one', nne1, nne2, nne3, Nat.add_right_cancel_iff, Nat.add_left_cancel_iff, Nat.le_refl, reduceCtorEq, bind_some', aBin_lss, aBin_leq, aBin_gtr, aBin_geq, aBin_eql, aBin_neq, aBin_add, aBin_sub, aBin_mul, aBin_seql, aBin_sneq, aBinb_eql, aBinb_neq, aUn_not, aUn_neg, aSlen_str, extr0, extr1, extr2]
  refine Ok.gives (IsValidFactor_impl (obsFac p x y w nm id) hp hn) (pB rfl) fun m hm => ?_
  simp only [retV_one, retV_two, retV_three, mkNew_agg, mkNew_zc, ld_top, ld_old, ld_setN, sto_top, sto_old, sto_setN, faddr_ptr, faddr_eptr, ld_eptr, new_m', new_n', setN_m', setN_n', st0_m', st0_n', put_m', put_n', AV.cells, AV.one, AV.stor, ldCells, setElem, splice, List.all_cons, List.all_nil, List.length_cons, List.length_nil, List.drop, List.take, List.head?_cons, List.getElem?_cons_zero, List.getElem?_cons_succ, List.set_cons_zero, List.nil_append, List.cons_append, List.append_nil, List.drop_zero, List.drop_succ_cons, List.drop_nil, List.take_zero, List.take_succ_cons, List.take_nil, cond_true, cond_false, Bool.and_self, Bool.and_true, and_self, and_true, true_and, if_true, bind_some', Nat.add_zero, Nat.zero_add, Nat.reduceAdd, Nat.reduceLeDiff, ne_eq, not_false_eq_true, Nat.add_eq_zero_iff, Nat.reduceEqDiff, one_ne_zero', zero_ne_one', nne1, nne2, nne3, Nat.add_right_cancel_iff, Nat.add_left_cancel_iff, Nat.le_refl, reduceCtorEq, bind_some', aBin_lss, aBin_leq, aBin_gtr, aBin_geq, aBin_eql, aBin_neq, aBin_add, aBin_sub, aBin_mul, aBin_seql, aBin_sneq, aBinb_eql, aBinb_neq, aUn_not, aUn_neg, aSlen_str, extr0, extr1, extr2]
  refine Ok.cndnb (fun h => ?_) fun h => ?_
  · (try simp only [retV_one, retV_two, retV_three, mkNew_agg, mkNew_zc, ld_top, ld_old, ld_setN, sto_top, sto_old, sto_setN, faddr_ptr, faddr_eptr, ld_eptr, new_m', new_n', setN_m', setN_n', st0_m', st0_n', put_m', put_n', AV.cells, AV.one, AV.stor, ldCells, setElem, splice, List.all_cons, List.all_nil, List.length_cons, List.length_nil, List.drop, List.take, List.head?_cons, List.getElem?_cons_zero, List.getElem?_cons_succ, List.set_cons_zero, List.nil_append, List.cons_append, List.append_nil, List.drop_zero, List.drop_succ_cons, List.drop_nil, List.take_zero, List.take_succ_cons, List.take_nil, cond_true, cond_false, Bool.and_self, Bool.and_true, and_self, and_true, true_and, if_true, bind_some', Nat.add_zero, Nat.zero_add, Nat.reduceAdd, Nat.reduceLeDiff, ne_eq, not_false_eq_true, Nat.add_eq_zero_iff, Nat.reduceEqDiff, one_ne_zero', zero_ne_one', nne1, nne2, nne3, Nat.add_right_cancel_iff, Nat.add_left_cancel_iff, Nat.le_refl, reduceCtorEq, bind_some', aBin_lss, aBin_leq, aBin_gtr, aBin_geq, aBin_eql, aBin_neq, aBin_add, aBin_sub, aBin_mul, aBin_seql, aBin_sneq, aBinb_eql, aBinb_neq, aUn_not, aUn_neg, aSlen_str, extr0, extr1, extr2])
    refine Ok.ret (by first | rfl | (simp only [retV_one, retV_two, retV_three]; rfl)) (by (try simp only [new_n', setN_n', st0_n', put_n'] at *); first | omega | exact Nat.le_succ _ | exact Nat.le_refl _) ?_
    rw [obsFacM, if_neg (by rw [h]; exact Bool.false_ne_true)]; rfl
  · (try simp only [retV_one, retV_two, retV_three, mkNew_agg, mkNew_zc, ld_top, ld_old, ld_setN, sto_top, sto_old, sto_setN, faddr_ptr, faddr_eptr, ld_eptr, new_m', new_n', setN_m', setN_n', st0_m', st0_n', put_m', put_n', AV.cells, AV.one, AV.stor, ldCells, setElem, splice, List.all_cons, List.all_nil, List.length_cons, List.length_nil, List.drop, List.take, List.head?_cons, List.getElem?_cons_zero, List.getElem?_cons_succ, List.set_cons_zero, List.nil_append, List.cons_append, List.append_nil, List.drop_zero, List.drop_succ_cons, List.drop_nil, List.take_zero, List.take_succ_cons, List.take_nil, cond_true, cond_false, Bool.and_self, Bool.and_true, and_self, and_true, true_and, if_true, bind_some', Nat.add_zero, Nat.zero_add, Nat.reduceAdd, Nat.reduceLeDiff, ne_eq, not_false_eq_true, Nat.add_eq_zero_iff, Nat.reduceEqDiff, one_ne_zero', zero_ne_one', nne1, nne2, nne3, Nat.add_right_cancel_iff, Nat.add_left_cancel_iff, Nat.le_refl, reduceCtorEq, bind_some', aBin_lss, aBin_leq, aBin_gtr, aBin_geq, aBin_eql, aBin_neq, aBin_add, aBin_sub, aBin_mul, aBin_seql, aBin_sneq, aBinb_eql, aBinb_neq, aUn_not, aUn_neg, aSlen_str, extr0, extr1, extr2])
    refine Ok.ret (by first | rfl | (simp only [retV_one, retV_two, retV_three]; rfl)) (by (try simp only [new_n', setN_n', st0_n', put_n'] at *); first | omega | exact Nat.le_succ _ | exact Nat.le_refl _) ?_
    rw [obsFacM, if_pos h]; rfl

theorem eqPose_g (p q : Pos) : Gives i_laws_eqPose [poseV p, poseV q] (.bool (decide (p = q))) := by
  intro n
  rw [call_laws_eqPose]
  simp only [poseV, retV_one, retV_two, retV_three, mkNew_agg, mkNew_zc, ld_top, ld_old, ld_setN, sto_top, sto_old, sto_setN, faddr_ptr, faddr_eptr, ld_eptr, new_m', new_n', setN_m', setN_n', st0_m', st0_n', put_m', put_n', AV.cells, AV.one, AV.stor, ldCells, setElem, splice, List.all_cons, List.all_nil, List.length_cons, List.length_nil, List.drop, List.take, List.head?_cons, List.getElem?_cons_zero, List.getElem?_cons_succ, List.set_cons_zero, List.nil_append, List.cons_append, List.append_nil, List.drop_zero, List.drop_succ_cons, List.drop_nil, List.take_zero, List.take_succ_cons, List.take_nil, cond_true, cond_false, Bool.and_self, Bool.and_true, and_self, and_true, true_and, if_true, bind_some', Nat.add_zero, Nat.zero_add, Nat.reduceAdd, Nat.reduceLeDiff, ne_eq, not_false_eq_true, Nat.add_eq_zero_iff, Nat.reduceEqDiff, one_ne_zero', zero_ne_one', nne1, nne2, nne3, Nat.add_right_cancel_iff, Nat.add_left_cancel_iff, Nat.le_refl, reduceCtorEq, bind_some', aBin_lss, aBin_leq, aBin_gtr, aBin_geq, aBin_eql, aBin_neq, aBin_add, aBin_sub, aBin_mul, aBin_seql, aBin_sneq, aBinb_eql, aBinb_neq, aUn_not, aUn_neg, aSlen_str, extr0, extr1, extr2]
  repeat' first
    | (refine Ok.cnd (fun h => ?_) fun h => ?_) | (refine Ok.cndn (fun h => ?_) fun h => ?_) | (refine Ok.cndb (fun h => ?_) fun h => ?_) | (refine Ok.cndnb (fun h => ?_) fun h => ?_)
  all_goals refine Ok.retb (by (try simp only [new_n', setN_n', st0_n', put_n'] at *); first | omega | exact Nat.le_succ _ | exact Nat.le_refl _) ?_
  all_goals (cases p; cases q; grind)
theorem eqFactor_g (f g : Fac) : Gives i_laws_eqFactor [facV f, facV g] (.bool (decide (f = g))) := by
  intro n
  rw [call_laws_eqFactor]
  simp only [facV, retV_one, retV_two, retV_three, mkNew_agg, mkNew_zc, ld_top, ld_old, ld_setN, sto_top, sto_old, sto_setN, faddr_ptr, faddr_eptr, ld_eptr, new_m', new_n', setN_m', setN_n', st0_m', st0_n', put_m', put_n', AV.cells, AV.one, AV.stor, ldCells, setElem, splice, List.all_cons, List.all_nil, List.length_cons, List.length_nil, List.drop, List.take, List.head?_cons, List.getElem?_cons_zero, List.getElem?_cons_succ, List.set_cons_zero, List.nil_append, List.cons_append, List.append_nil, List.drop_zero, List.drop_succ_cons, List.drop_nil, List.take_zero, List.take_succ_cons, List.take_nil, cond_true, cond_false, Bool.and_self, Bool.and_true, and_self, and_true, true_and, if_true, bind_some', Nat.add_zero, Nat.zero_add, Nat.reduceAdd, Nat.reduceLeDiff, ne_eq, not_false_eq_true, Nat.add_eq_zero_iff, Nat.reduceEqDiff, one_ne_zero', zero_ne_one', nne1, nne2, nne3, Nat.add_right_cancel_iff, Nat.add_left_cancel_iff, Nat.le_refl, reduceCtorEq, bind_some', aBin_lss, aBin_leq, aBin_gtr, aBin_geq, aBin_eql, aBin_neq, aBin_add, aBin_sub, aBin_mul, aBin_seql, aBin_sneq, aBinb_eql, aBinb_neq, aUn_not, aUn_neg, aSlen_str, extr0, extr1, extr2]
  repeat' first
    | (refine Ok.cnd (fun h => ?_) fun h => ?_) | (refine Ok.cndn (fun h => ?_) fun h => ?_) | (refine Ok.cndb (fun h => ?_) fun h => ?_) | (refine Ok.cndnb (fun h => ?_) fun h => ?_)
    | (refine Ok.gives (eqPose_g f.p g.p) (pB rfl) fun m hm => ?_; (simp only [retV_one, retV_two, retV_three, mkNew_agg, mkNew_zc, ld_top, ld_old, ld_setN, sto_top, sto_old, sto_setN, faddr_ptr, faddr_eptr, ld_eptr, new_m', new_n', setN_m', setN_n', st0_m', st0_n', put_m', put_n', AV.cells, AV.one, AV.stor, ldCells, setElem, splice, List.all_cons, List.all_nil, List.length_cons, List.length_nil, List.drop, List.take, List.head?_cons, List.getElem?_cons_zero, List.getElem?_cons_succ, List.set_cons_zero, List.nil_append, List.cons_append, List.append_nil, List.drop_zero, List.drop_succ_cons, List.drop_nil, List.take_zero, List.take_succ_cons, List.take_nil, cond_true, cond_false, Bool.and_self, Bool.and_true, and_self, and_true, true_and, if_true, bind_some', Nat.add_zero, Nat.zero_add, Nat.reduceAdd, Nat.reduceLeDiff, ne_eq, not_false_eq_true, Nat.add_eq_zero_iff, Nat.reduceEqDiff, one_ne_zero', zero_ne_one', nne1, nne2, nne3, Nat.add_right_cancel_iff, Nat.add_left_cancel_iff, Nat.le_refl, reduceCtorEq, bind_some', aBin_lss, aBin_leq, aBin_gtr, aBin_geq, aBin_eql, aBin_neq, aBin_add, aBin_sub, aBin_mul, aBin_seql, aBin_sneq, aBinb_eql, aBinb_neq, aUn_not, aUn_neg, aSlen_str, extr0, extr1, extr2]))
  all_goals refine Ok.retb (by (try simp only [new_n', setN_n', st0_n', put_n'] at *); first | omega | exact Nat.le_succ _ | exact Nat.le_refl _) ?_
  all_goals (cases f; cases g; grind)

end Go.Proofs.YtilbmpdeginabaaFw
