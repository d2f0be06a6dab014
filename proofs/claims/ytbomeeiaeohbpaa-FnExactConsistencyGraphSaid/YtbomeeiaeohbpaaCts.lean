/- What the functions that the law reaches give back. Conditions: those of each theorem. -/
import Derived.Test.YtbomeeiaeohbpaaEqs
set_option linter.unusedSimpArgs false
set_option linter.unusedVariables false
namespace Go.Proofs.YtbomeeiaeohbpaaFw
open Go

theorem nodupB_of {l : List Nat} (h : l.Nodup) : nodupB l = true := by
  induction l with
  | nil => rfl
  | cons t l ih =>
    rw [List.nodup_cons] at h
    simp only [nodupB, Bool.and_eq_true, Bool.not_eq_true']
    exact ⟨by simpa using h.1, ih h.2⟩
theorem tagsL_append : ∀ (a b : List AV), tagsL (a ++ b) = tagsL a ++ tagsL b
  | [], b => rfl
  | v :: a, b => by simp [tagsL, tagsL_append a b]
theorem thBL_append : ∀ (a b : List AV), thBL (a ++ b) = (thBL a && thBL b)
  | [], b => rfl
  | v :: a, b => by simp [thBL, thBL_append a b, Bool.and_assoc]
theorem depL_append : ∀ (a b : List AV), depL (a ++ b) = max (depL a) (depL b)
  | [], b => by simp [depL]
  | v :: a, b => by simp [depL, depL_append a b, Nat.max_assoc]

/-- all slices new, their tags in [n, n') -/
def New (d n n' : Nat) (v : AV) : Prop := v.tags.Nodup ∧ (∀ t ∈ v.tags, n ≤ t ∧ t < n') ∧ thB v = true ∧ dep v ≤ d
def NewL (d n n' : Nat) (vs : List AV) : Prop := (tagsL vs).Nodup ∧ (∀ t ∈ tagsL vs, n ≤ t ∧ t < n') ∧ thBL vs = true ∧ depL vs ≤ d

mutual
theorem dep_tags : ∀ {v : AV}, dep v = 0 → thB v = true → v.tags = []
  | .sl .., h, _ => by simp [dep] at h
  | .agg cs, h, k => by
    simp only [dep] at h; simp only [thB, Bool.and_eq_true] at k
    simp only [AV.tags]; exact depL_tags h k.2
  | .bool _, _, _ => rfl
  | .int .., _, _ => rfl
  | .str _, _, _ => rfl
  | .nils, _, _ => rfl
  | .undef, _, k => by simp [thB] at k
  | .nilp, _, k => by simp [thB] at k
  | .ptr .., _, k => by simp [thB] at k
  | .eptr .., _, k => by simp [thB] at k
  | .lsl .., _, k => by simp [thB] at k
  | .tup .., _, k => by simp [thB] at k
theorem depL_tags : ∀ {vs : List AV}, depL vs = 0 → thBL vs = true → tagsL vs = []
  | [], _, _ => rfl
  | v :: vs, h, k => by
    simp only [depL] at h; simp only [thBL, Bool.and_eq_true] at k
    simp [tagsL, dep_tags (by omega) k.1, depL_tags (by omega) k.2]
end

theorem New.flat {d n n' : Nat} {v : AV} (h : dep v = 0) (k : thB v = true) : New d n n' v := by
  have := dep_tags h k
  exact ⟨by rw [this]; exact List.nodup_nil, by rw [this]; simp, k, by omega⟩
theorem NewL.nil {d n n' : Nat} : NewL d n n' [] := ⟨List.nodup_nil, by simp [tagsL], rfl, by simp [depL]⟩
theorem NewL.snoc {d n n1 n2 : Nat} {vs : List AV} {v : AV} (h : NewL d n n1 vs) (k : New d n1 n2 v) (h1 : n ≤ n1) (h2 : n1 ≤ n2) : NewL d n n2 (vs ++ [v]) := by
  obtain ⟨a1, a2, a3, a4⟩ := h
  obtain ⟨b1, b2, b3, b4⟩ := k
  have e : tagsL (vs ++ [v]) = tagsL vs ++ v.tags := by simp [tagsL_append, tagsL]
  refine ⟨?_, ?_, by simp [thBL_append, thBL, a3, b3], by simp [depL_append, depL]; omega⟩
  · rw [e, List.nodup_append]
    refine ⟨a1, b1, fun x hx y hy => ?_⟩
    have := a2 x hx; have := b2 y hy; omega
  · rw [e]; intro t ht
    rcases List.mem_append.1 ht with ht | ht
    · have := a2 t ht; omega
    · have := b2 t ht; omega
theorem NewL.cons {d n n1 n2 : Nat} {vs : List AV} {v : AV} (h : New d n n1 v) (k : NewL d n1 n2 vs) (h1 : n ≤ n1) (h2 : n1 ≤ n2) : NewL d n n2 (v :: vs) := by
  obtain ⟨a1, a2, a3, a4⟩ := h
  obtain ⟨b1, b2, b3, b4⟩ := k
  refine ⟨?_, ?_, by simp [thBL, a3, b3], by simp only [depL]; omega⟩
  · simp only [tagsL]; rw [List.nodup_append]
    refine ⟨a1, b1, fun x hx y hy => ?_⟩
    have := a2 x hx; have := b2 y hy; omega
  · simp only [tagsL]; intro t ht
    rcases List.mem_append.1 ht with ht | ht
    · have := a2 t ht; omega
    · have := b2 t ht; omega
theorem New.wide {d d' n n' m m' : Nat} {v : AV} (h : New d n n' v) (hd : d ≤ d') (h1 : m ≤ n) (h2 : n' ≤ m') : New d' m m' v :=
  ⟨h.1, fun t ht => by have := h.2.1 t ht; omega, h.2.2.1, by have := h.2.2.2; omega⟩
theorem NewL.wide {d d' n n' m m' : Nat} {v : List AV} (h : NewL d n n' v) (hd : d ≤ d') (h1 : m ≤ n) (h2 : n' ≤ m') : NewL d' m m' v :=
  ⟨h.1, fun t ht => by have := h.2.1 t ht; omega, h.2.2.1, by have := h.2.2.2; omega⟩
theorem New.sl {d n n' t s : Nat} {es : List AV} (h : NewL d (t + 1) n' es) (h1 : n ≤ t) (h2 : t < n') (h3 : s ≠ 0) : New (d + 1) n n' (.sl t 0 s es) := by
  obtain ⟨a1, a2, a3, a4⟩ := h
  refine ⟨?_, ?_, by simp [thB, nbeq, h3, a3], by simp only [dep]; omega⟩
  · simp only [AV.tags, List.nodup_cons]
    exact ⟨fun hm => by have := a2 t hm; omega, a1⟩
  · simp only [AV.tags]; intro x hx
    rcases List.mem_cons.1 hx with rfl | hx
    · omega
    · have := a2 x hx; omega
/-- the array's tag behind its elements' (appended) -/
theorem New.sl' {d n n' t s : Nat} {es : List AV} (h : NewL d n t es) (h1 : n ≤ t) (h2 : t < n') (h3 : s ≠ 0) : New (d + 1) n n' (.sl t 0 s es) := by
  obtain ⟨a1, a2, a3, a4⟩ := h
  refine ⟨?_, ?_, by simp [thB, nbeq, h3, a3], by simp only [dep]; omega⟩
  · simp only [AV.tags, List.nodup_cons]
    exact ⟨fun hm => by have := a2 t hm; omega, a1⟩
  · simp only [AV.tags]; intro x hx
    rcases List.mem_cons.1 hx with rfl | hx
    · omega
    · have := a2 x hx; omega
/-- flat elements -/
theorem NewL.flat {d n n' : Nat} {vs : List AV} (h : depL vs = 0) (k : thBL vs = true) : NewL d n n' vs := by
  have := depL_tags h k
  exact ⟨by rw [this]; exact List.nodup_nil, by rw [this]; simp, k, by omega⟩
theorem flatL {vs : List AV} (h : ∀ v ∈ vs, dep v = 0 ∧ thB v = true) : depL vs = 0 ∧ thBL vs = true := by
  induction vs with
  | nil => exact ⟨rfl, rfl⟩
  | cons v vs ih =>
    obtain ⟨a, b⟩ := h v List.mem_cons_self
    obtain ⟨c, d⟩ := ih fun w hw => h w (List.mem_cons_of_mem _ hw)
    exact ⟨by simp [depL, a, c], by simp [thBL, b, d]⟩
theorem New.nils {d n n' : Nat} : New d n n' .nils := New.flat rfl rfl
theorem New.agg {d n n' : Nat} {cs : List AV} (h : NewL d n n' cs) (k : cs.all AV.one = true) : New d n n' (.agg cs) :=
  ⟨h.1, h.2.1, by simp only [thB, Bool.and_eq_true]; exact ⟨k, h.2.2.1⟩, h.2.2.2⟩
theorem New.fresh {n n' : Nat} {v : AV} {d : Nat} (h : New d n n' v) (hd : d ≤ 6) : Fresh n n' v := ⟨nodupB_of h.1, h.2.1, h.2.2.1, by have := h.2.2.2; omega⟩

theorem All2.mem {α : Type} {R : AV → α → Prop} : ∀ {es : List AV} {l : List α}, All2 R es l → ∀ e ∈ es, ∃ x ∈ l, R e x
  | [], _, _, e, he => by simp at he
  | a :: es, l, h, e, he => by
    simp only [All2] at h
    obtain ⟨b, r, rfl, h1, h2⟩ := h
    rcases List.mem_cons.1 he with rfl | he
    · exact ⟨b, List.mem_cons_self, h1⟩
    · obtain ⟨x, hx, hr⟩ := h2.mem e he
      exact ⟨x, List.mem_cons_of_mem _ hx, hr⟩

/-- a loop that fills a fresh array -/
theorem to_loop {α ρ : Type} {R : AV → α → Prop} {d n0 : Nat} (Lp : Nat → St → Option ρ) (l : List α) (t s j : Nat) (z : AV)
    (step : ∀ (ds : List AV) (x : α) (k : Nat) (st : St), l[ds.length]? = some x → st.H j = some ⟨t, s, ds ++ z :: List.replicate k z⟩ → ds.length + 1 + k = l.length →
      ∃ v n', R v x ∧ New d st.n n' v ∧ st.n ≤ n' ∧ Lp ds.length st = Lp (ds.length + 1) ((st.put j ⟨t, s, ds ++ v :: List.replicate k z⟩).setN n')) :
    ∀ (k : Nat) (ds : List AV) (st : St), ds.length + k = l.length → st.H j = some ⟨t, s, ds ++ List.replicate k z⟩ → n0 ≤ st.n → NewL d n0 st.n ds → All2 R ds (l.take ds.length) →
      ∃ es st', Lp ds.length st = Lp l.length st' ∧ st'.H j = some ⟨t, s, es⟩ ∧ All2 R es l ∧ NewL d n0 st'.n es ∧ st.n ≤ st'.n ∧ (∀ i, i ≠ j → st'.H i = st.H i) ∧ st'.m = st.m
  | 0, ds, st, h, hH, hn, hF, hA => by
    refine ⟨ds, st, by rw [← h]; rfl, by simpa using hH, by rwa [List.take_of_length_le (by omega)] at hA, hF, Nat.le_refl _, fun _ _ => rfl, rfl⟩
  | k + 1, ds, st, h, hH, hn, hF, hA => by
    have hi : ds.length < l.length := by omega
    obtain ⟨v, n', h1, h2, h3, h4⟩ := step ds l[ds.length] k st (List.getElem?_eq_getElem hi) hH (by omega)
    obtain ⟨es, st', g1, g2, g3, g4, g5, g6, g7⟩ := to_loop Lp l t s j z step k (ds ++ [v]) ((st.put j ⟨t, s, ds ++ v :: List.replicate k z⟩).setN n') (by simp; omega)
      (by simp [St.setN, St.put]) (by simp [setN_n]; omega) (hF.snoc h2 hn h3) (by
        rw [List.length_append, List.length_singleton, List.take_add_one, List.getElem?_eq_getElem hi]
        exact hA.append (by simp only [Option.toList, All2]; exact ⟨_, _, rfl, h1, rfl⟩))
    refine ⟨es, st', ?_, g2, g3, g4, by simp [setN_n] at g5; omega, fun i hi => ?_, g7⟩
    · rw [h4, ← g1, List.length_append, List.length_singleton]
    · rw [g6 i hi]; simp [St.setN, St.put, nbeq, hi]

theorem eq_loop {α ρ : Type} [DecidableEq α] (Lp : Nat → Nat → Option ρ) (l1 l2 : List α) (e r : Nat → ρ) (hl : l1.length = l2.length) (he : ∀ n, Lp l1.length n = some (e n))
    (step : ∀ i x y n, l1[i]? = some x → l2[i]? = some y → ∃ n', n ≤ n' ∧ Lp i n = if x = y then Lp (i + 1) n' else some (r n')) :
    ∀ (k i n : Nat), i + k = l1.length → ∃ n', n ≤ n' ∧ Lp i n = some (if l1.drop i = l2.drop i then e n' else r n')
  | 0, i, n, h => by
    have : i = l1.length := by omega
    subst this
    exact ⟨n, Nat.le_refl _, by rw [he, if_pos (by rw [List.drop_length, hl, List.drop_length])]⟩
  | k + 1, i, n, h => by
    have h1 : i < l1.length := by omega
    have h2 : i < l2.length := by omega
    obtain ⟨n', g1, g2⟩ := step i l1[i] l2[i] n (List.getElem?_eq_getElem h1) (List.getElem?_eq_getElem h2)
    rw [g2, List.drop_eq_getElem_cons h1, List.drop_eq_getElem_cons h2]
    by_cases hx : l1[i] = l2[i]
    · obtain ⟨n2, f1, f2⟩ := eq_loop Lp l1 l2 e r hl he step k (i + 1) n' (by omega)
      rw [if_pos hx, f2]
      refine ⟨n2, Nat.le_trans g1 f1, ?_⟩
      simp only [hx, List.cons.injEq, true_and]
    · rw [if_neg hx]
      exact ⟨n', g1, by rw [if_neg fun h => hx (List.cons.inj h).1]⟩

theorem sz_loop {α ρ : Type} {c : α → Nat} (Lp : Nat → Int → Nat → Option ρ) (l : List α) (e r : Int → Nat → ρ) (he : ∀ z n, Lp l.length z n = some (e z n))
    (step : ∀ (i : Nat) (x : α) (left : Int) (n : Nat), l[i]? = some x → 0 ≤ left → left ≤ 1048576 → ∃ (z : Int) (n' : Nat), n ≤ n' ∧ z ≤ left ∧ (0 ≤ z → z = left - c x) ∧ Lp i left n = if z < 0 then some (r z n') else Lp (i + 1) z n') :
    ∀ (k i : Nat) (left : Int) (n : Nat), i + k = l.length → 0 ≤ left → left ≤ 1048576 →
      ∃ n', n ≤ n' ∧ ((∃ z, 0 ≤ z ∧ z = left - cntL c (l.drop i) ∧ Lp i left n = some (e z n')) ∨ ∃ z, z < 0 ∧ Lp i left n = some (r z n'))
  | 0, i, left, n, h, h0, h1 => by
    have : i = l.length := by omega
    subst this
    exact ⟨n, Nat.le_refl _, .inl ⟨left, h0, by simp [cntL], he _ _⟩⟩
  | k + 1, i, left, n, h, h0, h1 => by
    have hi : i < l.length := by omega
    obtain ⟨z, n', g1, g2, g3, g4⟩ := step i l[i] left n (List.getElem?_eq_getElem hi) h0 h1
    by_cases hz : z < 0
    · exact ⟨n', g1, .inr ⟨z, hz, by rw [g4, if_pos hz]⟩⟩
    · obtain ⟨n2, f1, f2⟩ := sz_loop Lp l e r he step k (i + 1) z n' (by omega) (by omega) (by omega)
      refine ⟨n2, Nat.le_trans g1 f1, ?_⟩
      rw [g4, if_neg hz, List.drop_eq_getElem_cons hi]
      have := g3 (by omega)
      rcases f2 with ⟨y, y0, y1, y2⟩ | f2
      · exact .inl ⟨y, y0, by simp only [cntL]; omega, y2⟩
      · exact .inr f2

/-- what is held after marks -/
theorem held_loop {α ρ : Type} {R : AV → α → Prop} {mk : α → Int → α} {c : α → Nat} (Lp : Nat → Int → Nat → Option ρ) (es : List AV)
    (step : ∀ i e x k n, es[i]? = some e → R e (mk x k) → 0 ≤ k → k + c x ≤ 4611686018427387904 → ∃ n', n ≤ n' ∧ Lp i k n = Lp (i + 1) (k + c x) n') :
    ∀ (l : List α) (i : Nat) (k : Int) (n : Nat), All2 R (es.drop i) (mkL mk c l k) → i ≤ es.length → 0 ≤ k → k + cntL c l ≤ 4611686018427387904 → ∃ n', n ≤ n' ∧ Lp i k n = Lp es.length (k + cntL c l) n'
  | [], i, k, n, h, hi, _, _ => by
    have := h.length
    simp [mkL] at this
    have : i = es.length := by omega
    subst this
    exact ⟨n, Nat.le_refl _, by simp [cntL]⟩
  | x :: l, i, k, n, h, hi, h0, hc => by
    have hl := h.length
    simp only [mkL, List.length_cons, List.length_drop] at hl
    have hi' : i < es.length := by omega
    rw [List.drop_eq_getElem_cons hi'] at h
    simp only [mkL, All2] at h
    obtain ⟨b, r, e, h1, h2⟩ := h
    cases e
    simp only [cntL] at hc
    obtain ⟨n', g1, g2⟩ := step i es[i] x k n (List.getElem?_eq_getElem hi') h1 h0 (by omega)
    obtain ⟨n2, f1, f2⟩ := held_loop Lp es step l (i + 1) (k + c x) n' h2 (by omega) (by omega) (by omega)
    refine ⟨n2, Nat.le_trans g1 f1, ?_⟩
    rw [g2, f2]
    simp only [cntL]
    rw [show k + (c x : Int) + (cntL c l : Nat) = k + ((c x + cntL c l : Nat) : Int) by omega]

def iota (_ : Int) (k : Int) : Int := k
def mkB (_ : Bool) (k : Int) : Bool := decide (k.tmod 3 = 0)
theorem cnt_one {α : Type} : ∀ (l : List α), cntL (fun _ => 1) l = l.length
  | [] => rfl
  | x :: l => by simp [cntL, cnt_one l]; omega

theorem slof_thB {α : Type} {s d : Nat} {R : AV → α → Prop} {st : St} {a b : Nat} {v T : AV} {l : List α} (hs : s ≠ 0) (h : SlOf s R T l) (k : Own st a b v T)
    (he : ∀ (st : St) (a b : Nat) (v T : AV) (x : α), R T x → Own st a b v T → Go.Proofs.YtbomeeiaeohbpaaFw.thB T = true ∧ dep T ≤ d) : Go.Proofs.YtbomeeiaeohbpaaFw.thB T = true ∧ dep T ≤ d + 1 := by
  rcases k.slice h with ⟨_, rfl, _⟩ | ⟨t, j, vs, es, rfl, _, _, _, _, h5, h6⟩
  · exact ⟨rfl, by simp [dep]⟩
  · have h7 : ∀ (es : List AV) (l : List α) (vs : List AV) (a : Nat), All2 R es l → OwnL st a j vs es → thBL es = true ∧ depL es ≤ d := by
      intro es
      induction es with
      | nil => intro l _ _ _ _; exact ⟨rfl, by simp [depL]⟩
      | cons e es ih =>
        intro l vs a h h'
        simp only [All2] at h
        simp only [OwnL] at h'
        obtain ⟨b, r, _, hr, h⟩ := h
        obtain ⟨w, ws, c, _, o1, o2⟩ := h'
        obtain ⟨i1, i2⟩ := ih r _ _ h o2
        obtain ⟨j1, j2⟩ := he _ _ _ _ _ _ hr o1
        exact ⟨by simp [thBL, j1, i1], by simp only [depL]; omega⟩
    obtain ⟨g1, g2⟩ := h7 es l vs a h6 h5
    exact ⟨by simp [Go.Proofs.YtbomeeiaeohbpaaFw.thB, g1, nbeq, hs], by simp only [dep]; omega⟩

def Helds (f : Nat) {α : Type} (P : AV → α → Prop) (mk : α → Int → α) (c : α → Nat) : Prop :=
  ∀ (v : AV) (x : α) (k : Int) (n : Nat), P v (mk x k) → 0 ≤ k → k + c x ≤ 4611686018427387904 → Ok (L.call f [v, .int .i64 k] n) fun p => n ≤ p.2 ∧ p.1 = .int .i64 (k + c x)

theorem resD_setN (E : St) (n : Nat) : ∀ (d : Nat) (v : AV), resD (E.setN n) d v = resD E d v
  | 0, _ => rfl
  | d + 1, v => by
    have h : resD (E.setN n) d = resD E d := funext (resD_setN E n d)
    simp only [resD, h]; rfl
theorem res_setN (E : St) (n : Nat) (v : AV) : res (E.setN n) v = res E v := resD_setN E n 6 v
theorem res_setN' (E : St) (n : Nat) : res (E.setN n) = res E := funext (res_setN E n)
theorem locD_setN (E : St) (n : Nat) : ∀ (d : Nat) (v : AV), locD (E.setN n) d v = locD E d v
  | 0, _ => rfl
  | d + 1, v => by
    have h : locD (E.setN n) d = locD E d := funext (locD_setN E n d)
    simp only [locD, h]; rfl
theorem locs_setN (E : St) (n : Nat) (vs : List AV) : locs (E.setN n) vs = locs E vs := by
  have h : locD (E.setN n) 6 = locD E 6 := funext (locD_setN E n 6)
  simp only [locs, h]

theorem Own.setN {E : St} {n a b : Nat} {v T : AV} (h : Own E a b v T) : Own (E.setN n) a b v T := h.frame fun _ _ _ => rfl
theorem Own.unN {E : St} {n a b : Nat} {v T : AV} (h : Own (E.setN n) a b v T) : Own E a b v T := h.frame fun _ _ _ => rfl

section
variable {β : Type} {R : Sys}

/-- a call whose result is a scalar, or whose arguments are no local arrays: n grows alone -/
theorem Ok.callS {E : St} {n f : Nat} {xs ts : List AV} {P : AV × Nat → Prop} {K : AV × St → Option β} {Q : β → Prop} (hr : mapO (res E) xs = some ts) (hc : Ok (R.call f ts n) P)
    (hs : ∀ r n', P (r, n') → ∀ ls, reloc ls r = some r) (k : ∀ r n', P (r, n') → Ok (K (r, E.setN n')) Q) : Ok ((clV R f 0 xs (E.setN n)).bind K) Q := by
  obtain ⟨⟨r, n'⟩, e, h⟩ := hc
  simp only [clV, res_setN', hr, Option.bind_some, setN_n, e, hs r n' h]
  exact k r n' h
theorem Ok.callP {E : St} {n f : Nat} {xs : List AV} {P : AV × Nat → Prop} {K : AV × St → Option β} {Q : β → Prop} (hp : ∀ x ∈ xs, Plain x) (hc : Ok (R.call f xs n) P)
    (k : ∀ r n', P (r, n') → Ok (K (r, E.setN n')) Q) : Ok ((clV R f 0 xs (E.setN n)).bind K) Q := Ok.call (st := E.setN n) hc hp k
/-- the result is taken over -/
theorem Ok.callT {E : St} {d n f : Nat} {xs ts : List AV} {P : AV × Nat → Prop} {K : AV × St → Option β} {Q : β → Prop} (hr : mapO (res E) xs = some ts) (hc : Ok (R.call f ts n) P)
    (hf : ∀ r n', P (r, n') → New d n n' r) (hd : d ≤ 6) (k : ∀ r n' v E', P (r, n') → E.m ≤ E'.m → (∀ j, j < E.m → E'.H j = E.H j) → Own E' E.m E'.m v r → Ok (K (v, E'.setN n')) Q) :
    Ok ((clV R f 6 xs (E.setN n)).bind K) Q := by
  obtain ⟨⟨r, n'⟩, e, h⟩ := hc
  have hN := hf r n' h
  have ht : ∀ vs, r ≠ .tup vs := fun vs e => by rw [e] at hN; simp [New, thB] at hN
  obtain ⟨v, st', t1, t2, t3, t4, t5⟩ := thaw_own (st := E.setN n') (hN.fresh hd) ht
  have hx : clV R f 6 xs (E.setN n) = some (v, st') := by
    simp only [clV, res_setN', hr, Option.bind_some, setN_n, e]
    exact t1
  rw [hx]
  have := k r n' v st' h t2 t4 t5
  rw [show st'.setN n' = st' by rw [← show st'.n = n' from t3]; rfl] at this
  exact this

theorem Ok.inl {f : Nat} {xs : List AV} {st : St} {P : AV × St → Prop} {K : AV × St → Option β} {Q : β → Prop} (hc : Ok (R.inl f xs st) P) (k : ∀ (v : AV) (E : St) (n : Nat), P (v, E.setN n) → Ok (K (v, E.setN n)) Q) : Ok ((R.inl f xs st).bind K) Q := by
  obtain ⟨⟨v, st'⟩, e, h⟩ := hc
  rw [e]; exact k v st' st'.n h

theorem Ok.mkNew {E : St} {n : Nat} {e : AV} {K : AV → St → Option β} {Q : β → Prop} (h : e.stor = true) (h0 : e.cells.length ≠ 0) (k : ∀ (E' : St), E'.m = E.m + 1 → (∀ j, j < E.m → E'.H j = E.H j) → E'.H E.m = some ⟨n, e.cells.length, [e]⟩ → Ok (K (.ptr E.m n 0 0) (E'.setN (n + 1))) Q) : Ok (mkNew e (E.setN n) K) Q := by
  rw [mkNew_eq h h0]
  exact k ((E.setN n).new e.cells.length [e]) rfl (fun j hj => new_H_ne (Nat.ne_of_lt hj)) (new_H _ _ _)
end

theorem mapO1 {g : AV → Option AV} {x y : AV} (h : g x = some y) : mapO g [x] = some [y] := by simp [mapO, h]
theorem mapO2 {g : AV → Option AV} {x y x' y' : AV} (h : g x = some x') (k : g y = some y') : mapO g [x, y] = some [x', y'] := by simp [mapO, h, k]
theorem mapO3 {g : AV → Option AV} {x y z x' y' z' : AV} (h : g x = some x') (k : g y = some y') (l : g z = some z') : mapO g [x, y, z] = some [x', y', z'] := by simp [mapO, h, k, l]
theorem mapO4 {g : AV → Option AV} {x y z u x' y' z' u' : AV} (h : g x = some x') (k : g y = some y') (l : g z = some z') (m : g u = some u') : mapO g [x, y, z, u] = some [x', y', z', u'] := by simp [mapO, h, k, l, m]
theorem mapO_int {g : AV → Option AV} {E : St} {k : IntKind} {i : Int} : res E (.int k i) = some (.int k i) := rfl

theorem scal_bool {n : Nat} {b : Bool} {P : AV × Nat → Prop} (h : ∀ r n', P (r, n') → r = .bool b) : ∀ r n', P (r, n') → ∀ ls, reloc ls r = some r := fun r n' p ls => by rw [h r n' p]; exact reloc_bool ls b
theorem scal_b {b : Bool} {n : Nat} : ∀ r n', (fun p : AV × Nat => n ≤ p.2 ∧ p.1 = .bool b) (r, n') → ∀ ls, reloc ls r = some r := fun r n' p ls => by
  have : r = .bool b := p.2
  rw [this]; exact reloc_bool ls b
theorem scal_i {k : IntKind} {b : Int} {n : Nat} : ∀ r n', (fun p : AV × Nat => n ≤ p.2 ∧ p.1 = .int k b) (r, n') → ∀ ls, reloc ls r = some r := fun r n' p ls => by
  have : r = .int k b := p.2
  rw [this]; exact reloc_int ls k b

def RI (v : AV) (i : Int) : Prop := v = .int .i64 i
def IS (v : AV) (l : List Int) : Prop := SlOf 1 RI v l
theorem IS.plain {v : AV} {l : List Int} (h : IS v l) : Plain v := SlOf.plain h fun _ _ hr => by cases hr; rfl
def i64ok (n : Int) : Prop := -9223372036854775808 ≤ n ∧ n ≤ 9223372036854775807
theorem i64_wf {n : Int} (h : (Lit.int .i64 n).wf = true) : i64ok n := by
  unfold i64ok
  simp [Lit.wf, IntKind.min, IntKind.max, IntKind.signed, IntKind.bits] at h
  omega
theorem is_in {v : AV} (h : CT.has (.sl false [.int .i64]) v) : ∃ l, IS v l ∧ l.length ≤ maxLen ∧ ∀ n ∈ l, i64ok n :=
  has_sl h fun _ hx => by
    simp only [CT.has] at hx
    obtain ⟨n, rfl, hw⟩ := hx
    exact ⟨n, rfl, i64_wf hw⟩

def sm_int (x : Int) : Prop := i64ok x
theorem in_int {v : AV} (h : elHas false [.int .i64] v) : ∃ x, v = .int .i64 x ∧ i64ok x := by
  have := arg_one h
  simp only [CT.has] at this
  obtain ⟨n, rfl, hw⟩ := this
  exact ⟨n, rfl, i64_wf hw⟩

section
variable {α β ρ σ : Type}
theorem Ok.loop {Lp : Nat → σ → Option ρ} {I : Nat → σ → Prop} {Q : ρ → Prop} (n : Nat) (he : ∀ s, I n s → Ok (Lp n s) Q)
    (hs : ∀ i s, i < n → I i s → (∀ s', I (i + 1) s' → Ok (Lp (i + 1) s') Q) → Ok (Lp i s) Q) : ∀ k i s, i + k = n → I i s → Ok (Lp i s) Q
  | 0, i, s, h, hi => by
    have : i = n := by omega
    subst this; exact he s hi
  | k + 1, i, s, h, hi => hs i s (by omega) hi fun s' h' => Ok.loop n he hs k (i + 1) s' (by omega) h'

/-- a local array that grows -/
def Acc (n0 : Nat) (st : St) (s : Nat) (v : AV) (es : List AV) : Prop :=
  (v = .nils ∧ es = []) ∨ ∃ j t, Loc st j t s v es ∧ j < st.m ∧ n0 ≤ t ∧ t < st.n
def isAt (v : AV) (i : Nat) : Prop := ∃ t s off len, v = .lsl i t s off len

theorem Acc.lt {n0 s : Nat} {st : St} {v : AV} {es : List AV} (h : Acc n0 st s v es) {q : Nat} (hq : isAt v q) : q < st.m := by
  obtain ⟨t', s', off, len, e⟩ := hq
  rcases h with ⟨rfl, _⟩ | ⟨j, t, h, h1, _⟩
  · cases e
  · rw [h.1] at e; cases e; exact h1
theorem Acc.nil {n0 s : Nat} {st : St} : Acc n0 st s .nils [] := .inl ⟨rfl, rfl⟩
theorem Acc.arr {n0 s : Nat} {st : St} {v : AV} {es : List AV} (h : Acc n0 st s v es) : Arr st s v es := by
  rcases h with ⟨rfl, rfl⟩ | ⟨j, t, h, _⟩
  · exact .nil
  · exact h.arr
theorem Acc.frame {n0 s : Nat} {st st' : St} {v : AV} {es : List AV} (h : Acc n0 st s v es) (k : ∀ i, i < st.m → st'.H i = st.H i) (hm : st.m ≤ st'.m) (hn : st.n ≤ st'.n) : Acc n0 st' s v es := by
  rcases h with ⟨rfl, rfl⟩ | ⟨j, t, h, h1, h2, h3⟩
  · exact .inl ⟨rfl, rfl⟩
  · exact .inr ⟨j, t, h.frame (k j h1), by omega, h2, by omega⟩
theorem Acc.setN {n0 s n' : Nat} {st : St} {v : AV} {es : List AV} (h : Acc n0 st s v es) (hn : st.n ≤ n') : Acc n0 (st.setN n') s v es := h.frame (fun _ _ => rfl) (Nat.le_refl _) hn
theorem Acc.new {n0 s k : Nat} {st : St} {v : AV} {es xs : List AV} (h : Acc n0 st s v es) : Acc n0 (st.new k xs) s v es := h.frame (fun _ hi => new_H_ne (Nat.ne_of_lt hi)) (Nat.le_succ _) (Nat.le_succ _)

theorem lit0 {s : Nat} {z : AV} {st : St} {K : AV → St → Option β} (h : z.stor = true) (h1 : z.cells.length = s) (h2 : s ≠ 0) : mkLit 0 s z [] st K = K (.lsl st.m st.n s 0 0) (st.new s []) := by
  unfold mkLit; rw [if_pos ⟨h, h1, h2⟩]; rfl
theorem lit1 {s : Nat} {z x : AV} {st : St} {K : AV → St → Option β} (h : z.stor = true) (h1 : z.cells.length = s) (h2 : s ≠ 0) (hx : x.stor = true) (hx1 : x.cells.length = s) : mkLit 1 s z [(0, x)] st K = K (.lsl st.m st.n s 0 1) (st.new s [x]) := by
  unfold mkLit; rw [if_pos ⟨h, h1, h2⟩]
  simp only [mkSlice, List.length_replicate]
  rw [if_pos ⟨hx, hx1, by omega⟩]; rfl
theorem Acc.lit {n0 s : Nat} {st : St} (h : n0 ≤ st.n) : Acc n0 (st.new s []) s (.lsl st.m st.n s 0 0) [] := .inr ⟨st.m, st.n, ⟨rfl, new_H _ _ _⟩, Nat.lt_succ_self _, h, Nat.lt_succ_self _⟩

theorem one_stor {v : AV} (h : v.one = true) : v.stor = true ∧ v.cells.length = 1 := by cases v <;> simp [AV.one] at h <;> exact ⟨rfl, rfl⟩

/-- what is appended is an array that holds ys -/
theorem Acc.app {n0 s : Nat} {st : St} {v y : AV} {es ys : List AV} (h : Acc n0 st s v es) (hy : Arr st s y ys) (hn : n0 ≤ st.n) (hl : es.length + ys.length ≤ 4294967296) :
    ∃ v' st', aApp s v y st = some (v', st') ∧ Acc n0 st' s v' (es ++ ys) ∧ st.m ≤ st'.m ∧ st'.n = st.n + 1 ∧ (∀ i, i < st.m → ¬ isAt v i → st'.H i = st.H i) ∧ (∀ q, isAt v' q → isAt v q ∨ st.m ≤ q) := by
  obtain ⟨e1, e2⟩ := hy.elems
  rcases h with ⟨rfl, rfl⟩ | ⟨j, t, h, h1, h2, h3⟩
  · refine ⟨_, _, nil_app e1 e2 (by simpa using hl), .inr ⟨st.m, st.n, ⟨rfl, new_H _ _ _⟩, Nat.lt_succ_self _, hn, Nat.lt_succ_self _⟩, Nat.le_succ _, rfl, fun i hi _ => new_H_ne (Nat.ne_of_lt hi), fun q hq => ?_⟩
    obtain ⟨_, _, _, _, e⟩ := hq; cases e; exact .inr (Nat.le_refl _)
  · refine ⟨_, _, h.app e1 e2 hl, .inr ⟨j, st.n, app_loc rfl, h1, hn, Nat.lt_succ_self _⟩, Nat.le_refl _, rfl, fun i hi hne => ?_, fun q hq => ?_⟩
    case refine_2 => obtain ⟨_, _, _, _, e⟩ := hq; cases e; exact .inl ⟨t, s, 0, es.length, h.1⟩
    have : i ≠ j := fun e => hne ⟨t, s, 0, es.length, by rw [e]; exact h.1⟩
    exact put_H_ne this

/-- one element more -/
theorem Ok.push {n0 s : Nat} {st : St} {z v x : AV} {es : List AV} {K : AV × St → Option β} {Q : β → Prop} (h : Acc n0 st s v es) (hn : n0 ≤ st.n) (hz : z.stor = true) (hz1 : z.cells.length = s) (hs : s ≠ 0) (hx : x.stor = true) (hx1 : x.cells.length = s)
    (hl : es.length < 4294967296) (k : ∀ v' st', Acc n0 st' s v' (es ++ [x]) → st.m ≤ st'.m → st.n ≤ st'.n → (∀ i, i < st.m → ¬ isAt v i → st'.H i = st.H i) → (∀ q, isAt v' q → isAt v q ∨ st.m ≤ q) → Ok (K (v', st')) Q) :
    Ok (mkLit 1 s z [(0, x)] st fun y s2 => (aApp s v y s2).bind K) Q := by
  rw [lit1 hz hz1 hs hx hx1]
  have hy : Arr (st.new s [x]) s (.lsl st.m st.n s 0 1) [x] := (Loc.new (st := st) (s := s) (es := [x])).arr
  obtain ⟨v', st', e, g1, g2, g3, g4, g5⟩ := (h.new (k := s) (xs := [x])).app hy (Nat.le_trans hn (Nat.le_succ _)) (by simp; omega)
  rw [e]
  refine k v' st' g1 (Nat.le_trans (Nat.le_succ _) g2) (by rw [g3, new_n]; omega) (fun i hi hne => ?_) fun q hq => (g5 q hq).imp id fun h => Nat.le_trans (Nat.le_succ _) h
  rw [g4 i (by rw [new_m]; omega) hne, new_H_ne (Nat.ne_of_lt hi)]

theorem Acc.fin {n0 s d : Nat} {st : St} {v : AV} {es : List AV} (h : Acc n0 st s v es) (hp : ∀ e ∈ es, Plain e) : ∃ T, resTup st v = some T ∧ res st v = some T ∧ IsSl s T es ∧ (s ≠ 0 → depL es = 0 → thBL es = true → New (d + 1) n0 st.n T) ∧ ∀ t ∈ T.tags, n0 ≤ t ∨ ∃ e ∈ es, t ∈ e.tags := by
  rcases h with ⟨rfl, rfl⟩ | ⟨j, t, h, h1, h2, h3⟩
  · exact ⟨.nils, rfl, rfl, .inl ⟨rfl, rfl⟩, fun _ _ _ => New.nils, by simp [AV.tags]⟩
  · refine ⟨.sl t 0 s es, h.resTup hp, h.res hp, .inr ⟨_, _, rfl⟩, fun hs h4 h5 => New.sl (NewL.flat h4 h5) h2 h3 hs, ?_⟩
    intro u hu
    simp only [AV.tags] at hu
    rcases List.mem_cons.1 hu with rfl | hu
    · exact .inl h2
    · exact .inr (tagsL_mem.1 hu)

theorem SlOf.intro {s : Nat} {R : AV → α → Prop} {T : AV} {es : List AV} {l : List α} (h : IsSl s T es) (k : All2 R es l) : SlOf s R T l := ⟨es, h, k⟩

theorem All2.snoc {R : AV → α → Prop} {es : List AV} {l : List α} {e : AV} {x : α} (h : All2 R es l) (k : R e x) : All2 R (es ++ [e]) (l ++ [x]) := h.append (by simp only [All2]; exact ⟨_, _, rfl, k, rfl⟩)

/-- reading an element of a slice of one-cell elements -/
theorem Arr.get1 {st : St} {v : AV} {es : List AV} {R : AV → α → Prop} {l : List α} (h : Arr st 1 v es) (k : All2 R es l) {i : Nat} {x : α} (hx : l[i]? = some x) (ho : ∀ e, R e x → e.one = true) (kd : IntKind) :
    ∃ e p, R e x ∧ aIaddr 1 v (.int kd (i : Int)) = some p ∧ aLoad false 1 st p = some e := by
  obtain ⟨e, he, hr⟩ := k.get i x hx
  have hi := (List.getElem?_eq_some_iff.1 he).1
  obtain ⟨p, q1, q2⟩ := h.at hi kd
  have : es[i] = e := by rw [List.getElem?_eq_getElem hi] at he; exact Option.some.inj he
  exact ⟨e, p, hr, q1, by rw [q2, this, ld_one (ho e hr)]⟩
end
theorem wrap_i {x : Int} (h : -9223372036854775808 ≤ x ∧ x ≤ 9223372036854775807) : IntKind.wrap .i64 x = x := wrap64 h.1 h.2

theorem one_ne_zero' : ¬ (1 : Nat) = 0 := by omega
theorem nne1 (a : Nat) : ¬ a = a + 1 := by omega
theorem nne2 (a : Nat) : ¬ a = a + 1 + 1 := by omega
theorem nne3 (a : Nat) : ¬ a = a + 1 + 1 + 1 := by omega
theorem zero_ne_one' : ¬ (0 : Nat) = 1 := by omega
theorem new_m' (st : St) (s : Nat) (es : List AV) : (st.new s es).m = st.m + 1 := id rfl
theorem new_n' (st : St) (s : Nat) (es : List AV) : (st.new s es).n = st.n + 1 := id rfl
theorem setN_m' (st : St) (n : Nat) : (st.setN n).m = st.m := id rfl
theorem setN_n' (st : St) (n : Nat) : (st.setN n).n = n := id rfl
theorem st0_m' (n : Nat) : (st0 n).m = 0 := id rfl
theorem st0_n' (n : Nat) : (st0 n).n = n := id rfl
theorem put_m' (st : St) (j : Nat) (a : LArr) : (st.put j a).m = st.m := id rfl
theorem put_n' (st : St) (j : Nat) (a : LArr) : (st.put j a).n = st.n := id rfl
theorem mkNew_zc {α : Type} {cs : List AV} {st : St} {K : AV → St → Option α} (h : cs.all AV.one = true) (h0 : ¬ cs.length = 0) : mkNew (.agg cs) st K = K (.ptr st.m st.n 0 0) (st.new cs.length [.agg cs]) := mkNew_eq h h0
theorem ba_toList (b : ByteArray) : b.toList = b.data.toList := by
  have : ∀ (k i : Nat) (acc : List UInt8), b.size - i = k → ByteArray.toList.loop b i acc = acc.reverse ++ b.data.toList.drop i := by
    intro k
    induction k with
    | zero =>
      intro i acc h
      unfold ByteArray.toList.loop
      rw [if_neg (by omega), List.drop_of_length_le (by simp; have : b.data.size = b.size := rfl; omega)]; simp
    | succ k ih =>
      intro i acc h
      unfold ByteArray.toList.loop
      have hi : i < b.size := by omega
      have hi' : i < b.data.toList.length := by simpa using hi
      rw [if_pos hi, ih (i + 1) _ (by omega), List.reverse_cons, List.append_assoc, List.singleton_append, List.drop_eq_getElem_cons hi']
      congr 2
      simp [ByteArray.get!]
      rw [getElem!_pos]
  have := this b.size 0 [] (by omega)
  simpa [ByteArray.toList] using this
theorem aBin_seql (a b : ByteArray) : aBin .eql (.str a) (.str b) = some (.bool (decide (a = b))) := by
  have : (a.toList == b.toList) = decide (a = b) := by
    by_cases h : a = b
    · subst h; simp
    · simp only [h, decide_false]
      have : ¬ a.toList = b.toList := fun e => h (by
        have h1 : a.data.toList = b.data.toList := by
          have ha : a.toList = a.data.toList := ba_toList a
          have hb : b.toList = b.data.toList := ba_toList b
          rw [← ha, ← hb, e]
        have h2 : a.data = b.data := Array.toList_inj.1 h1
        cases a; cases b; simp at h2; rw [h2])
      simp [this]
  simp only [aBin, sBin, this]
theorem aBin_sneq (a b : ByteArray) : aBin .neq (.str a) (.str b) = some (.bool (decide (¬ a = b))) := by
  have h := aBin_seql a b
  simp only [aBin, sBin, Option.some.injEq, AV.bool.injEq] at h ⊢
  rw [h]; by_cases e : a = b <;> simp [e]

/-- a call gives a value without slices -/
def Gives (f : Nat) (xs : List AV) (r : AV) : Prop := ∀ n, Ok (L.call f xs n) fun p => n ≤ p.2 ∧ p.1 = r
theorem Gives.of {f : Nat} {xs : List AV} {r : AV} (h : ∀ n, L.call f xs n = some (r, n)) : Gives f xs r := fun n => ⟨_, h n, Nat.le_refl _, rfl⟩
theorem Ok.gives {β : Type} {f : Nat} {xs : List AV} {r : AV} {st : St} {K : AV × St → Option β} {Q : β → Prop} (hg : Gives f xs r) (hp : ∀ x ∈ xs, Plain x) (k : ∀ n', st.n ≤ n' → Ok (K (r, st.setN n')) Q) : Ok ((clV L f 0 xs st).bind K) Q :=
  Ok.call (hg st.n) hp fun r' n' h => by rw [show r' = r from h.2]; exact k n' h.1
/-- the same, where arguments may be local arrays; the result has no slices -/
theorem Ok.givesL {β : Type} {f : Nat} {xs ts : List AV} {r : AV} {st : St} {K : AV × St → Option β} {Q : β → Prop} (hg : Gives f ts r) (hr : mapO (res st) xs = some ts) (hl : ∀ ls, reloc ls r = some r) (k : ∀ n', st.n ≤ n' → Ok (K (r, st.setN n')) Q) : Ok ((clV L f 0 xs st).bind K) Q :=
  Ok.callL hr (hg st.n) fun r' n' h => by rw [show r' = r from h.2]; exact ⟨r, hl _, k n' h.1⟩
theorem Ok.ret {n m : Nat} {v r : AV} {st : St} (h : resTup st v = some v) (hn : n ≤ m) (e : v = r) : Ok ((resTup st v).bind fun r => some (r, m)) fun p => n ≤ p.2 ∧ p.1 = r := by
  rw [h]; exact ⟨_, rfl, hn, e⟩
theorem Ok.retb {n m : Nat} {b c : Bool} {st : St} (hn : n ≤ m) (e : b = c) : Ok ((resTup st (.bool b)).bind fun r => some (r, m)) fun p => n ≤ p.2 ∧ p.1 = .bool c := Ok.ret rfl hn (by rw [e])
theorem Ok.reti {n m : Nat} {k : IntKind} {b c : Int} {st : St} (hn : n ≤ m) (e : b = c) : Ok ((resTup st (.int k b)).bind fun r => some (r, m)) fun p => n ≤ p.2 ∧ p.1 = .int k c := Ok.ret rfl hn (by rw [e])
def plainB (v : AV) : Bool := v.tree && match v with | .agg cs => cs.all AV.one | v => v.one
theorem pB1 {v : AV} (h : plainB v = true) : Plain v := by
  unfold plainB at h
  rw [Bool.and_eq_true] at h
  refine ⟨h.1, ?_⟩
  cases v <;> first | exact .inr ⟨_, rfl, h.2⟩ | exact .inl h.2
theorem pB {xs : List AV} (h : xs.all plainB = true) : ∀ x ∈ xs, Plain x := fun x hx => pB1 (List.all_eq_true.1 h x hx)
theorem plain4 {a b c d : AV} (h : Plain a) (k : Plain b) (l : Plain c) (m : Plain d) : ∀ x ∈ [a, b, c, d], Plain x := by
  intro x hx
  simp only [List.mem_cons, List.not_mem_nil, or_false] at hx
  rcases hx with rfl | rfl | rfl | rfl <;> assumption

def byteAt (b : ByteArray) (i : Nat) : Nat := ((b[i]?).map (·.toNat)).getD 0
def nameAt (b : ByteArray) (i : Nat) : Bool := decide ((97 ≤ byteAt b i ∧ byteAt b i ≤ 122) ∨ (i ≠ 0 ∧ 48 ≤ byteAt b i ∧ byteAt b i ≤ 57))
def nameM (b : ByteArray) : Bool := decide (1 ≤ b.size ∧ b.size ≤ 8) && allF (nameAt b) 0 b.size
def poseNameM (b : ByteArray) : Bool := nameM b && decide (byteAt b 0 = 112)
def landNameM (b : ByteArray) : Bool := nameM b && decide (byteAt b 0 = 109)
theorem byteAt_lt {b : ByteArray} {i : Nat} (h : i < b.size) : byteAt b i = (b[i]).toNat := by simp [byteAt, h]

def RB (v : AV) (b : Bool) : Prop := v = .bool b
def BS (v : AV) (l : List Bool) : Prop := SlOf 1 RB v l
def BSS (v : AV) (l : List (List Bool)) : Prop := SlOf 1 BS v l

theorem BS.plain {v : AV} {l : List Bool} (h : BS v l) : Plain v := SlOf.plain h fun _ _ hr => by cases hr; rfl
theorem BSS.plain {v : AV} {l : List (List Bool)} (h : BSS v l) : Plain v := SlOf.plain h fun _ _ hr => (BS.plain hr).1
theorem bss_in {v : AV} (h : CT.has (.sl false [.sl false [.bool]]) v) : ∃ l, BSS v l ∧ l.length ≤ maxLen ∧ ∀ r ∈ l, r.length ≤ maxLen :=
  has_sl h fun _ hx => by
    obtain ⟨l, h1, h2, _⟩ := has_sl (R := RB) (P := fun _ => True) hx fun y hy => by
      simp only [CT.has] at hy
      obtain ⟨b, rfl⟩ := hy
      exact ⟨b, rfl, trivial⟩
    exact ⟨l, h1, h2⟩

def at2 (l : List (List Bool)) (i j : Nat) : Bool := ((l[i]?).bind (·[j]?)).getD false
def lenOk (l : List (List Bool)) (i : Nat) : Bool := decide ((l[i]?).map (·.length) = some l.length)
def cellOk (l : List (List Bool)) (i j : Nat) : Bool := !(at2 l i j && decide (i = j)) && decide (at2 l i j = at2 l j i)
def rowOk (l : List (List Bool)) (i : Nat) : Bool := allF (cellOk l i) 0 l.length
def graphM (l : List (List Bool)) : Bool := decide (l.length ≤ 12) && allF (lenOk l) 0 l.length && allF (rowOk l) 0 l.length

def vt (l : List Int) (i : Nat) : Int := (l[i]?).getD 0
def inR (n : Nat) (v : Int) : Bool := decide (0 ≤ v ∧ v ≤ (n : Int) - 1)
def adjI (g : List (List Bool)) (u v : Int) : Bool := at2 g u.toNat v.toNat
def cliqueAt (g : List (List Bool)) (l : List Int) (i : Nat) : Bool := inR g.length (vt l i) && allF (fun j => decide (vt l j < vt l i) && adjI g (vt l i) (vt l j)) 0 i
def cliqueM (g : List (List Bool)) (l : List Int) : Bool := graphM g && allF (cliqueAt g l) 0 l.length

theorem graphM_rows {g : List (List Bool)} (h : graphM g = true) : g.length ≤ 12 ∧ ∀ i, i < g.length → ∃ r, g[i]? = some r ∧ r.length = g.length := by
  unfold graphM at h
  simp only [Bool.and_eq_true, decide_eq_true_iff] at h
  refine ⟨h.1.1, fun i hi => ?_⟩
  have := allF_iff.1 h.1.2 i (Nat.zero_le i) (by omega)
  simp only [lenOk, decide_eq_true_iff, List.getElem?_eq_getElem hi, Option.map_some, Option.some.injEq] at this
  exact ⟨g[i], List.getElem?_eq_getElem hi, this⟩

/-- an element of the graph -/
theorem graph_get {x0 : AV} {g : List (List Bool)} (h0 : BSS x0 g) (h : graphM g = true) {u v : Int} (hu : 0 ≤ u ∧ u < g.length) (hv : 0 ≤ v ∧ v < g.length) (st : St) :
    ∃ e, aIaddr 1 x0 (.int .i64 u) = some (.eptr e.cells) ∧ aLoad false 1 st (.eptr e.cells) = some e ∧ aIaddr 1 e (.int .i64 v) = some (.eptr (AV.bool (adjI g u v)).cells) := by
  obtain ⟨_, hr⟩ := graphM_rows h
  obtain ⟨r, h1, h2⟩ := hr u.toNat (by omega)
  obtain ⟨e, p1, g1⟩ := SlOf.idx h0 h1
  obtain ⟨e2, rfl, g2⟩ := SlOf.idx p1 (List.getElem?_eq_getElem (by omega : v.toNat < r.length))
  have a1 : ((u.toNat : Nat) : Int) = u := by omega
  have a2 : ((v.toNat : Nat) : Int) = v := by omega
  have q1 := g1 .i64
  have q2 := g2 .i64
  rw [a1] at q1; rw [a2] at q2
  refine ⟨e, q1, load_one (SlOf.one p1), ?_⟩
  rw [q2]
  simp [adjI, at2, h1, List.getElem?_eq_getElem (by omega : v.toNat < r.length)]
theorem adj_symm {g : List (List Bool)} (hg : graphM g = true) {u v : Int} (hu : inR g.length u = true) (hv : inR g.length v = true) : adjI g u v = adjI g v u := by
  simp only [inR, decide_eq_true_iff] at hu hv
  unfold graphM at hg
  simp only [Bool.and_eq_true] at hg
  have h1 := allF_iff.1 hg.2 u.toNat (Nat.zero_le _) (by omega)
  have h2 := allF_iff.1 h1 v.toNat (Nat.zero_le _) (by omega)
  simp only [cellOk, Bool.and_eq_true, decide_eq_true_iff] at h2
  exact h2.2
def adjAll (g : List (List Bool)) (l : List Int) : Bool := allF (fun i => allF (fun j => adjI g (vt l j) (vt l i)) 0 i) 0 l.length

structure Pos where
  t : Int
  x : Int
  y : Int
  deriving DecidableEq
structure Fac where
  id : Int
  kind : Int
  frm : ByteArray
  to : ByteArray
  p : Pos
  w : Int
  deriving DecidableEq
def poseV (p : Pos) : AV := .agg [.int .i64 p.t, .int .i64 p.x, .int .i64 p.y]
def facV (f : Fac) : AV := .agg [.int .i64 f.id, .int .i64 f.kind, .str f.frm, .str f.to, .int .i64 f.p.t, .int .i64 f.p.x, .int .i64 f.p.y, .int .i64 f.w]
theorem pose_plain (p : Pos) : Plain (poseV p) := ⟨rfl, .inr ⟨_, rfl, rfl⟩⟩
theorem fac_plain (f : Fac) : Plain (facV f) := ⟨rfl, .inr ⟨_, rfl, rfl⟩⟩
def poseOk (p : Pos) : Bool := decide (0 ≤ p.t ∧ p.t ≤ 3 ∧ -1000000 ≤ p.x ∧ p.x ≤ 1000000 ∧ -1000000 ≤ p.y ∧ p.y ≤ 1000000)
def facOk (f : Fac) : Bool :=
  decide (0 ≤ f.id ∧ f.id ≤ 99999) && poseOk f.p && decide (1 ≤ f.w ∧ f.w ≤ 9999) &&
  (if f.kind = 1 then decide (f.frm = ⟨#[]⟩) && poseNameM f.to
   else if f.kind = 2 ∨ f.kind = 4 then poseNameM f.frm && poseNameM f.to && decide (¬ f.frm = f.to)
   else if f.kind = 3 then poseNameM f.frm && landNameM f.to && decide (f.p.t = 0)
   else false)
def RF (v : AV) (f : Fac) : Prop := v = facV f
def FS (v : AV) (l : List Fac) : Prop := SlOf 8 RF v l
theorem FS.plain {v : AV} {l : List Fac} (h : FS v l) : Plain v := SlOf.plain h fun _ _ hr => by cases hr; rfl
def RStr (v : AV) (s : ByteArray) : Prop := v = .str s
def SS (v : AV) (l : List ByteArray) : Prop := SlOf 1 RStr v l
theorem SS.plain {v : AV} {l : List ByteArray} (h : SS v l) : Plain v := SlOf.plain h fun _ _ hr => by cases hr; rfl
theorem FS.get {st : St} {v : AV} {l : List Fac} (h : FS v l) {i : Nat} {x : Fac} (hx : l[i]? = some x) (kd : IntKind) : ∃ p, aIaddr 8 v (.int kd (i : Int)) = some (.eptr p) ∧ p = (facV x).cells ∧ aLoad true 8 st (.eptr p) = some (facV x) := by
  obtain ⟨e, rfl, h1⟩ := SlOf.idx h hx
  exact ⟨_, h1 kd, rfl, rfl⟩
theorem SS.get {st : St} {v : AV} {l : List ByteArray} (h : SS v l) {i : Nat} {x : ByteArray} (hx : l[i]? = some x) (kd : IntKind) : ∃ p, aIaddr 1 v (.int kd (i : Int)) = some p ∧ aLoad false 1 st p = some (.str x) := by
  obtain ⟨e, rfl, h1⟩ := SlOf.idx h hx
  exact ⟨_, h1 kd, rfl⟩

def facSm (f : Fac) : Prop := i64ok f.id ∧ i64ok f.kind ∧ f.frm.size ≤ 1048576 ∧ f.to.size ≤ 1048576 ∧ i64ok f.p.t ∧ i64ok f.p.x ∧ i64ok f.p.y ∧ i64ok f.w
def sm_FactorS (l : List Fac) : Prop := l.length ≤ 1048576 ∧ ∀ f ∈ l, facSm f

def big_FactorS (l : List Fac) : Prop := l.length ≤ maxLen ∧ ∀ f ∈ l, (f.frm.size ≤ maxLen ∧ f.to.size ≤ maxLen) ∧ i64ok f.id ∧ i64ok f.kind ∧ i64ok f.p.t ∧ i64ok f.p.x ∧ i64ok f.p.y ∧ i64ok f.w
theorem in_FactorS {v : AV} (h : elHas false [.sl true [.int .i64, .int .i64, .str, .str, .int .i64, .int .i64, .int .i64, .int .i64]] v) : ∃ x, FS v x ∧ big_FactorS x := by
  obtain ⟨l, h1, h2, h3⟩ := has_sla (R := RF) (P := fun f => (f.frm.size ≤ maxLen ∧ f.to.size ≤ maxLen) ∧ i64ok f.id ∧ i64ok f.kind ∧ i64ok f.p.t ∧ i64ok f.p.x ∧ i64ok f.p.y ∧ i64ok f.w) (arg_one h) fun cs hc => by
    simp only [hasL, CT.has] at hc
    obtain ⟨_, _, rfl, ⟨a, rfl, ha⟩, _, _, rfl, ⟨b, rfl, hb⟩, _, _, rfl, ⟨c, rfl, hc⟩, _, _, rfl, ⟨d, rfl, hd⟩, _, _, rfl, ⟨e, rfl, he⟩, _, _, rfl, ⟨f, rfl, hf⟩, _, _, rfl, ⟨g, rfl, hg⟩, _, _, rfl, ⟨w, rfl, hw⟩, rfl⟩ := hc
    exact ⟨⟨a, b, c, d, ⟨e, f, g⟩, w⟩, rfl, ⟨hc, hd⟩, i64_wf ha, i64_wf hb, i64_wf he, i64_wf hf, i64_wf hg, i64_wf hw⟩
  exact ⟨l, h1, h2, h3⟩
theorem FS.thB {st : St} {a b : Nat} {v T : AV} {l : List Fac} (h : FS T l) (k : Own st a b v T) : thB T = true ∧ dep T ≤ 1 :=
  slof_thB (d := 0) (by omega) h k fun _ _ _ _ _ _ h _ => by cases h; exact ⟨rfl, by simp [facV, dep, depL]⟩
theorem t_res_FactorS {st : St} {a b : Nat} {v T : AV} {l : List Fac} (h : FS T l) (k : Own st a b v T) : res st v = some T := k.res (h.thB k).1 (by have := (h.thB k).2; omega)
theorem t_pl_FactorS {T : AV} {l : List Fac} (h : FS T l) : Plain T := h.plain

def facSz (f : Fac) : Nat := f.frm.size + f.to.size
theorem szFactor_ok (f : Fac) (left : Int) (h1 : 0 ≤ left) (h2 : left ≤ 1048576) (hf : f.frm.size ≤ 9223372036854775807) (ht : f.to.size ≤ 9223372036854775807) (n : Nat) :
    Ok (L.call i_laws_szFactor [facV f, .int .i64 left] n) fun p => n ≤ p.2 ∧ ∃ z : Int, p.1 = .int .i64 z ∧ z ≤ left ∧ (0 ≤ z → z = left - facSz f) := by
  rw [call_laws_szFactor]
  simp only [facV, retV_one, retV_two, retV_three, mkNew_agg, mkNew_zc, ld_top, ld_old, ld_setN, sto_top, sto_old, sto_setN, faddr_ptr, faddr_eptr, ld_eptr, new_m', new_n', setN_m', setN_n', st0_m', st0_n', put_m', put_n', AV.cells, AV.one, AV.stor, ldCells, setElem, splice, List.all_cons, List.all_nil, List.length_cons, List.length_nil, List.drop, List.take, List.head?_cons, List.getElem?_cons_zero, List.getElem?_cons_succ, List.set_cons_zero, List.nil_append, List.cons_append, List.append_nil, List.drop_zero, List.drop_succ_cons, List.drop_nil, List.take_zero, List.take_succ_cons, List.take_nil, cond_true, cond_false, Bool.and_self, Bool.and_true, and_self, and_true, true_and, if_true, bind_some', Nat.add_zero, Nat.zero_add, Nat.reduceAdd, Nat.reduceLeDiff, ne_eq, not_false_eq_true, Nat.add_eq_zero_iff, Nat.reduceEqDiff, one_ne_zero', zero_ne_one', nne1, nne2, nne3, Nat.add_right_cancel_iff, Nat.add_left_cancel_iff, Nat.le_refl, reduceCtorEq, bind_some', aBin_lss, aBin_leq, aBin_gtr, aBin_geq, aBin_eql, aBin_neq, aBin_add, aBin_sub, aBin_mul, aBin_seql, aBin_sneq, aBinb_eql, aBinb_neq, aUn_not, aUn_neg, aSlen_str, extr0, extr1, extr2]
  rw [wrap64 (x := left - f.frm.size) (by omega) (by omega)]
  refine Ok.cnd (fun h => ?_) fun h => ?_
  · exact ⟨_, rfl, Nat.le_succ _, -1, rfl, by omega, by omega⟩
  rw [wrap64 (by omega) (by omega)]
  refine Ok.cnd (fun h => ?_) fun h => ?_
  · exact ⟨_, rfl, Nat.le_succ _, -1, rfl, by omega, by omega⟩
  · exact ⟨_, rfl, Nat.le_succ _, _, rfl, by omega, by unfold facSz; omega⟩
theorem szFactorS_ok {v : AV} {l : List Fac} {left : Int} (h : FS v l) (hl : l.length ≤ maxLen) (hs : ∀ f ∈ l, f.frm.size ≤ maxLen ∧ f.to.size ≤ maxLen) (h1 : 0 ≤ left) (h2 : left ≤ 1048576) (n : Nat) :
    Ok (L.call i_laws_szFactorS [v, .int .i64 left] n) fun p => n ≤ p.2 ∧ ∃ z : Int, p.1 = .int .i64 z ∧ z ≤ 1048576 ∧ (0 ≤ z → (l.length : Int) ≤ left ∧ cntL facSz l ≤ left) := by
  have hl' : l.length ≤ 9223372036854775807 := hl
  rw [call_laws_szFactorS, SlOf.len h]
  simp only [bind_some', aBin_lss, aBin_leq, aBin_gtr, aBin_geq, aBin_eql, aBin_neq, aBin_add, aBin_sub, aBin_mul, aBin_seql, aBin_sneq, aBinb_eql, aBinb_neq, aUn_not, aUn_neg, aSlen_str, extr0, extr1, extr2]
  rw [wrap64 (by omega) (by omega)]
  refine Ok.cnd (fun h0 => ?_) fun h0 => ?_
  · exact ⟨_, rfl, Nat.le_refl _, -1, rfl, by omega, by omega⟩
  obtain ⟨n', e1, e2⟩ := sz_loop (c := facSz) (fun i left n => L.loop [0, 1, 5] [1, 4] b_laws_szFactorS_1 [v, .int .i64 left, .int .i64 i] (st0 n)) l (fun z n => (.exit 0, [.int .i64 z, .undef], st0 n)) (fun z n => (.ret, [.int .i64 z, .int .i64 (-1)], st0 n))
    (fun z n => by
      rw [loop_laws_szFactorS_1, SlOf.len h]
      simp only [bind_some', aBin_lss, cnd_dec, Int.lt_irrefl, if_false])
    (fun i x lf n hx g0 g1 => by
      have hi := (List.getElem?_eq_some_iff.1 hx).1
      have hm := hs x (List.mem_of_getElem? hx)
      have hm1 : x.frm.size ≤ 9223372036854775807 := hm.1
      have hm2 : x.to.size ≤ 9223372036854775807 := hm.2
      obtain ⟨p, q1, _, q2⟩ := FS.get (st := st0 n) h hx .i64
      obtain ⟨⟨r, n'⟩, c1, c2, z, c3, c4, c5⟩ := szFactor_ok x lf g0 g1 hm1 hm2 n
      simp only at c3; subst c3
      refine ⟨z, n', c2, c4, c5, ?_⟩
      rw [loop_laws_szFactorS_1, SlOf.len h]
      simp only [bind_some', aBin_lss, cnd_dec, q1, q2, aBin_add]
      rw [if_pos (by omega), call_plain (plain2 (fac_plain x) (plain_int _ _)) c1, bind_some']
      simp only [aBin_lss, bind_some', cnd_dec]
      rw [wrap64 (by omega) (by omega)]
      rfl)
    l.length 0 (left - l.length) n (by omega) (by omega) (by omega)
  rw [show ((0 : Nat) : Int) = 0 from rfl] at e2
  rcases e2 with ⟨z, z0, z1, e⟩ | ⟨z, z0, e⟩
  · rw [e, bind_some', k_laws_szFactorS_1_0]
    rw [List.drop_zero] at z1
    exact ⟨_, rfl, e1, z, rfl, by omega, fun _ => by omega⟩
  · rw [e, bind_some', k_laws_szFactorS_1_ret]
    exact ⟨_, rfl, e1, -1, rfl, by omega, by omega⟩

theorem cntL_mem {α : Type} {c : α → Nat} : ∀ {l : List α} {x : α}, x ∈ l → c x ≤ cntL c l
  | y :: l, x, h => by
    simp only [cntL]
    rcases List.mem_cons.1 h with rfl | h
    · omega
    · have := cntL_mem (c := c) h; omega
theorem t_sz_FactorS {v : AV} {x : List Fac} {left : Int} (h : FS v x) (b : big_FactorS x) (h1 : 0 ≤ left) (h2 : left ≤ 1048576) (n : Nat) :
    Ok (L.call i_laws_szFactorS [v, .int .i64 left] n) fun p => n ≤ p.2 ∧ ∃ z, p.1 = .int .i64 z ∧ z ≤ 1048576 ∧ (0 ≤ z → sm_FactorS x) :=
  (szFactorS_ok h b.1 (fun f hf => (b.2 f hf).1) h1 h2 n).mono fun p ⟨a, z, e, a1, a2⟩ => ⟨a, z, e, a1, fun hz => ⟨by have := (a2 hz).1; omega, fun f hf => by
    have h3 : f.frm.size + f.to.size ≤ cntL facSz x := cntL_mem (c := facSz) hf; have h4 := (a2 hz).2
    obtain ⟨_, i1, i2, i3, i4, i5, i6⟩ := b.2 f hf
    exact ⟨i1, i2, by omega, by omega, i3, i4, i5, i6⟩⟩⟩

theorem toPose_g (p : Pos) : Gives i_laws_toPose [poseV p] (poseV p) := by
  intro n
  rw [call_laws_toPose]
  simp only [poseV, retV_one, retV_two, retV_three, mkNew_agg, mkNew_zc, ld_top, ld_old, ld_setN, sto_top, sto_old, sto_setN, faddr_ptr, faddr_eptr, ld_eptr, new_m', new_n', setN_m', setN_n', st0_m', st0_n', put_m', put_n', AV.cells, AV.one, AV.stor, ldCells, setElem, splice, List.all_cons, List.all_nil, List.length_cons, List.length_nil, List.drop, List.take, List.head?_cons, List.getElem?_cons_zero, List.getElem?_cons_succ, List.set_cons_zero, List.nil_append, List.cons_append, List.append_nil, List.drop_zero, List.drop_succ_cons, List.drop_nil, List.take_zero, List.take_succ_cons, List.take_nil, cond_true, cond_false, Bool.and_self, Bool.and_true, and_self, and_true, true_and, if_true, bind_some', Nat.add_zero, Nat.zero_add, Nat.reduceAdd, Nat.reduceLeDiff, ne_eq, not_false_eq_true, Nat.add_eq_zero_iff, Nat.reduceEqDiff, one_ne_zero', zero_ne_one', nne1, nne2, nne3, Nat.add_right_cancel_iff, Nat.add_left_cancel_iff, Nat.le_refl, reduceCtorEq, bind_some', aBin_lss, aBin_leq, aBin_gtr, aBin_geq, aBin_eql, aBin_neq, aBin_add, aBin_sub, aBin_mul, aBin_seql, aBin_sneq, aBinb_eql, aBinb_neq, aUn_not, aUn_neg, aSlen_str, extr0, extr1, extr2]
  refine Ok.ret (by first | rfl | (simp only [retV_one, retV_two, retV_three]; rfl)) (by (try simp only [new_n', setN_n', st0_n', put_n'] at *); first | omega | exact Nat.le_succ _ | exact Nat.le_refl _) ?_
  rfl
theorem toFactor_g (f : Fac) : Gives i_laws_toFactor [facV f] (facV f) := by
  intro n
  rw [call_laws_toFactor]
  simp only [facV, retV_one, retV_two, retV_three, mkNew_agg, mkNew_zc, ld_top, ld_old, ld_setN, sto_top, sto_old, sto_setN, faddr_ptr, faddr_eptr, ld_eptr, new_m', new_n', setN_m', setN_n', st0_m', st0_n', put_m', put_n', AV.cells, AV.one, AV.stor, ldCells, setElem, splice, List.all_cons, List.all_nil, List.length_cons, List.length_nil, List.drop, List.take, List.head?_cons, List.getElem?_cons_zero, List.getElem?_cons_succ, List.set_cons_zero, List.nil_append, List.cons_append, List.append_nil, List.drop_zero, List.drop_succ_cons, List.drop_nil, List.take_zero, List.take_succ_cons, List.take_nil, cond_true, cond_false, Bool.and_self, Bool.and_true, and_self, and_true, true_and, if_true, bind_some', Nat.add_zero, Nat.zero_add, Nat.reduceAdd, Nat.reduceLeDiff, ne_eq, not_false_eq_true, Nat.add_eq_zero_iff, Nat.reduceEqDiff, one_ne_zero', zero_ne_one', nne1, nne2, nne3, Nat.add_right_cancel_iff, Nat.add_left_cancel_iff, Nat.le_refl, reduceCtorEq, bind_some', aBin_lss, aBin_leq, aBin_gtr, aBin_geq, aBin_eql, aBin_neq, aBin_add, aBin_sub, aBin_mul, aBin_seql, aBin_sneq, aBinb_eql, aBinb_neq, aUn_not, aUn_neg, aSlen_str, extr0, extr1, extr2]
  refine Ok.gives (toPose_g f.p) (pB rfl) fun m hm => ?_
  simp only [poseV, retV_one, retV_two, retV_three, mkNew_agg, mkNew_zc, ld_top, ld_old, ld_setN, sto_top, sto_old, sto_setN, faddr_ptr, faddr_eptr, ld_eptr, new_m', new_n', setN_m', setN_n', st0_m', st0_n', put_m', put_n', AV.cells, AV.one, AV.stor, ldCells, setElem, splice, List.all_cons, List.all_nil, List.length_cons, List.length_nil, List.drop, List.take, List.head?_cons, List.getElem?_cons_zero, List.getElem?_cons_succ, List.set_cons_zero, List.nil_append, List.cons_append, List.append_nil, List.drop_zero, List.drop_succ_cons, List.drop_nil, List.take_zero, List.take_succ_cons, List.take_nil, cond_true, cond_false, Bool.and_self, Bool.and_true, and_self, and_true, true_and, if_true, bind_some', Nat.add_zero, Nat.zero_add, Nat.reduceAdd, Nat.reduceLeDiff, ne_eq, not_false_eq_true, Nat.add_eq_zero_iff, Nat.reduceEqDiff, one_ne_zero', zero_ne_one', nne1, nne2, nne3, Nat.add_right_cancel_iff, Nat.add_left_cancel_iff, Nat.le_refl, reduceCtorEq, bind_some', aBin_lss, aBin_leq, aBin_gtr, aBin_geq, aBin_eql, aBin_neq, aBin_add, aBin_sub, aBin_mul, aBin_seql, aBin_sneq, aBinb_eql, aBinb_neq, aUn_not, aUn_neg, aSlen_str, extr0, extr1, extr2]
  refine Ok.ret (by first | rfl | (simp only [retV_one, retV_two, retV_three]; rfl)) (by (try simp only [new_n', setN_n', st0_n', put_n'] at *); first | omega | exact Nat.le_succ _ | exact Nat.le_refl _) ?_
  rfl

theorem toFactorS_ok {x0 : AV} {l : List Fac} (h0 : FS x0 l) (hl : l.length ≤ 1048576) (n : Nat) : Ok (L.call i_laws_toFactorS [x0] n) fun p => n ≤ p.2 ∧ FS p.1 l ∧ New 1 n p.2 p.1 := by
  rw [call_laws_toFactorS, SlOf.len h0]
  simp only [bind_some']
  rw [mkMake_ok (s := 8) (by omega) rfl rfl (by omega)]
  obtain ⟨es, st', g1, g2, g3, g4, g5, g6, g7⟩ := to_loop (R := RF) (d := 0) (n0 := n + 1) (fun i st => L.loop [0, 3, 4] [2, 3] b_laws_toFactorS_1 [x0, .lsl 0 n 8 0 l.length, .int .i64 i] st) l n 8 0 zc_iissiiii
    (fun ds x k st hx hH hk => by
      have hi := (List.getElem?_eq_some_iff.1 hx).1
      obtain ⟨p, q1, q0, q2⟩ := FS.get (st := st) h0 hx .i64
      obtain ⟨⟨v, n'⟩, c1, c2, c3⟩ := toFactor_g x st.n
      simp only at c3; subst c3
      refine ⟨facV x, n', rfl, New.flat rfl rfl, c2, ?_⟩
      rw [loop_laws_toFactorS_1, SlOf.len h0]
      simp only [bind_some', aBin_lss, cnd_dec, q1, q2, aBin_add]
      rw [if_pos (by omega), wrap64 (by omega) (by omega), call_plain (plain1 (fac_plain x)) c1, bind_some', iaddr_mid (by omega), bind_some']
      have hs : aStore 8 (.ptr 0 n ds.length 0) (facV x) { st with n := n' } = some (({ st with n := n' } : St).put 0 ⟨n, 8, ds ++ facV x :: List.replicate k zc_iissiiii⟩) := by
        have hH' : ({ st with n := n' } : St).get 0 n = some ⟨n, 8, ds ++ zc_iissiiii :: List.replicate k zc_iissiiii⟩ := get_H (st := { st with n := n' }) hH
        simp only [aStore, facV, AV.stor, AV.cells, List.all_cons, List.all_nil, AV.one, Bool.and_self, List.length_cons, List.length_nil, true_and, if_true, hH', Option.bind_some, mid_get, setElem, splice, Nat.reduceAdd, Nat.le_refl, mid_set]
        rfl
      simp only
      rw [hs]
      rfl)
    l.length [] ((st0 n).new 8 (List.replicate l.length zc_iissiiii)) (by simp) (new_H _ _ _) (Nat.le_refl _) NewL.nil rfl
  simp only [List.length_nil] at g1
  rw [show ((0 : Nat) : Int) = 0 from rfl] at g1
  show Ok ((L.loop [0, 3, 4] [2, 3] b_laws_toFactorS_1 [x0, .lsl 0 n 8 0 l.length, .int .i64 0] ((st0 n).new 8 (List.replicate l.length zc_iissiiii))).bind k_laws_toFactorS_1) _
  rw [g1, loop_laws_toFactorS_1, SlOf.len h0]
  simp only [bind_some', aBin_lss, cnd_dec, Int.lt_irrefl, if_false, k_laws_toFactorS_1_0]
  rw [← g3.length, resTup_lsl g2 fun e he => by obtain ⟨x, _, rfl⟩ := g3.mem e he; exact fac_plain x]
  have : n + 1 ≤ st'.n := g5
  exact ⟨_, rfl, by simp only; omega, ⟨es, .inr ⟨_, _, rfl⟩, g3⟩, New.sl g4 (Nat.le_refl _) (by simp only; omega) (by omega)⟩

theorem t_to_FactorS {v : AV} {x : List Fac} (h : FS v x) (s : sm_FactorS x) (n : Nat) : Ok (L.call i_laws_toFactorS [v] n) fun p => n ≤ p.2 ∧ FS p.1 x ∧ New 6 n p.2 p.1 :=
  (toFactorS_ok h s.1 n).mono fun p hp => ⟨hp.1, hp.2.1, hp.2.2.wide (by omega) (Nat.le_refl _) (Nat.le_refl _)⟩

theorem BS.thB {st : St} {a b : Nat} {v T : AV} {l : List Bool} (h : BS T l) (k : Own st a b v T) : thB T = true ∧ dep T ≤ 1 :=
  slof_thB (d := 0) (by omega) h k fun _ _ _ _ _ _ h _ => by cases h; exact ⟨rfl, by simp [dep]⟩
theorem BS.res {st : St} {a b : Nat} {v T : AV} {l : List Bool} (h : BS T l) (k : Own st a b v T) : res st v = some T := k.res (h.thB k).1 (by have := (h.thB k).2; omega)

theorem BSS.thB {st : St} {a b : Nat} {v T : AV} {l : List (List Bool)} (h : BSS T l) (k : Own st a b v T) : thB T = true ∧ dep T ≤ 2 :=
  slof_thB (d := 1) (by omega) h k fun _ _ _ _ _ _ h k => BS.thB h k
theorem BSS.res {st : St} {a b : Nat} {v T : AV} {l : List (List Bool)} (h : BSS T l) (k : Own st a b v T) : res st v = some T := k.res (h.thB k).1 (by have := (h.thB k).2; omega)

def sm_BoolSS (x : List (List Bool)) : Prop := x.length ≤ 1048576 ∧ ∀ r ∈ x, r.length ≤ 1048576
def big_BoolSS (x : List (List Bool)) : Prop := x.length ≤ maxLen ∧ ∀ r ∈ x, r.length ≤ maxLen
theorem in_BoolSS {v : AV} (h : elHas false [.sl false [.sl false [.bool]]] v) : ∃ x, BSS v x ∧ big_BoolSS x := by
  obtain ⟨l, h1, h2, h3⟩ := bss_in (arg_one h)
  exact ⟨l, h1, h2, h3⟩
theorem t_res_BoolSS {st : St} {a b : Nat} {v T : AV} {l : List (List Bool)} (h : BSS T l) (k : Own st a b v T) : res st v = some T := h.res k
theorem t_pl_BoolSS {T : AV} {l : List (List Bool)} (h : BSS T l) : Plain T := h.plain

theorem eqBoolS_ok {x0 x1 : AV} {l1 l2 : List Bool} (h0 : BS x0 l1) (h1 : BS x1 l2) (hb : l1.length ≤ 4294967296) (n : Nat) : Ok (L.call i_laws_eqBoolS [x0, x1] n) fun p => n ≤ p.2 ∧ p.1 = .bool (decide (l1 = l2)) := by
  rw [call_laws_eqBoolS, SlOf.len h0, SlOf.len h1]
  simp only [bind_some', aBin_neq, cnd_dec]
  by_cases hl : l1.length = l2.length
  · rw [if_neg (by omega)]
    obtain ⟨n', g1, g2⟩ := eq_loop (fun i n => L.loop [0, 1, 5] [4] b_laws_eqBoolS_1 [x0, x1, .int .i64 i] (st0 n)) l1 l2 (fun n => (.exit 0, [.undef], st0 n)) (fun n => (.ret, [.bool false], st0 n)) hl
      (fun n => by
        rw [loop_laws_eqBoolS_1, SlOf.len h0]
        simp only [bind_some', aBin_lss, cnd_dec, Int.lt_irrefl, if_false])
      (fun i x y n hx hy => by
        have hi := (List.getElem?_eq_some_iff.1 hx).1
        obtain ⟨e1, rfl, g1⟩ := SlOf.idx h0 hx
        obtain ⟨e2, rfl, g2⟩ := SlOf.idx h1 hy
        refine ⟨n, Nat.le_refl _, ?_⟩
        rw [loop_laws_eqBoolS_1, SlOf.len h0]
        simp only [bind_some', aBin_lss, cnd_dec, g1, g2, ld_eptr, ld_one (e := .bool x) rfl, ld_one (e := .bool y) rfl, aBinb_neq, aBin_add]
        rw [if_pos (by omega), wrap64 (by omega) (by omega)]
        simp only [ite_not]
        rfl)
      l1.length 0 n (by omega)
    rw [show ((0 : Nat) : Int) = 0 from rfl] at g2
    rw [g2]
    simp only [List.drop_zero]
    by_cases hx : l1 = l2
    · rw [if_pos hx, bind_some', k_laws_eqBoolS_1_0, resTup_bool]
      exact ⟨_, rfl, g1, by simp [hx]⟩
    · rw [if_neg hx, bind_some', k_laws_eqBoolS_1_ret, resTup_bool]
      exact ⟨_, rfl, g1, by simp [hx]⟩
  · rw [if_pos (by omega), resTup_bool]
    exact ⟨_, rfl, Nat.le_refl _, by rw [decide_eq_false fun e => hl (congrArg _ e)]⟩

theorem eqBoolSS_ok {x0 x1 : AV} {l1 l2 : List (List Bool)} (h0 : BSS x0 l1) (h1 : BSS x1 l2) (hb : l1.length ≤ 4294967296) (hr : ∀ r ∈ l1, r.length ≤ 4294967296) (n : Nat) : Ok (L.call i_laws_eqBoolSS [x0, x1] n) fun p => n ≤ p.2 ∧ p.1 = .bool (decide (l1 = l2)) := by
  rw [call_laws_eqBoolSS, SlOf.len h0, SlOf.len h1]
  simp only [bind_some', aBin_neq, cnd_dec]
  by_cases hl : l1.length = l2.length
  · rw [if_neg (by omega)]
    obtain ⟨n', g1, g2⟩ := eq_loop (fun i n => L.loop [0, 1, 5] [4] b_laws_eqBoolSS_1 [x0, x1, .int .i64 i] (st0 n)) l1 l2 (fun n => (.exit 0, [.undef], st0 n)) (fun n => (.ret, [.bool false], st0 n)) hl
      (fun n => by
        rw [loop_laws_eqBoolSS_1, SlOf.len h0]
        simp only [bind_some', aBin_lss, cnd_dec, Int.lt_irrefl, if_false])
      (fun i x y n hx hy => by
        have hi := (List.getElem?_eq_some_iff.1 hx).1
        obtain ⟨e1, f1, g1⟩ := SlOf.idx h0 hx
        obtain ⟨e2, f2, g2⟩ := SlOf.idx h1 hy
        obtain ⟨⟨v, n'⟩, c1, c2, c3⟩ := eqBoolS_ok f1 f2 (hr _ (List.mem_of_getElem? hx)) n
        simp only at c3; subst c3
        refine ⟨n', c2, ?_⟩
        rw [loop_laws_eqBoolSS_1, SlOf.len h0]
        simp only [bind_some', aBin_lss, cnd_dec, g1, g2, ld_eptr, ld_one (SlOf.one f1), ld_one (SlOf.one f2), aBin_add]
        rw [if_pos (by omega), wrap64 (by omega) (by omega), call_plain (plain2 (BS.plain f1) (BS.plain f2)) c1, bind_some']
        simp only [aUn_not, bind_some', cnd_ndec]
        rfl)
      l1.length 0 n (by omega)
    rw [show ((0 : Nat) : Int) = 0 from rfl] at g2
    rw [g2]
    simp only [List.drop_zero]
    by_cases hx : l1 = l2
    · rw [if_pos hx, bind_some', k_laws_eqBoolSS_1_0, resTup_bool]
      exact ⟨_, rfl, g1, by simp [hx]⟩
    · rw [if_neg hx, bind_some', k_laws_eqBoolSS_1_ret, resTup_bool]
      exact ⟨_, rfl, g1, by simp [hx]⟩
  · rw [if_pos (by omega), resTup_bool]
    exact ⟨_, rfl, Nat.le_refl _, by rw [decide_eq_false fun e => hl (congrArg _ e)]⟩

theorem t_eq_BoolSS {v u : AV} {x y : List (List Bool)} (h : BSS v x) (k : BSS u y) (s : sm_BoolSS x) (n : Nat) : Ok (L.call i_laws_eqBoolSS [v, u] n) fun p => n ≤ p.2 ∧ p.1 = .bool (decide (x = y)) :=
  eqBoolSS_ok h k (by have := s.1; omega) (fun r hr => by have := s.2 r hr; omega) n

theorem eqPose_g (p q : Pos) : Gives i_laws_eqPose [poseV p, poseV q] (.bool (decide (p = q))) := by
  intro n
  rw [call_laws_eqPose]
  simp only [poseV, retV_one, retV_two, retV_three, mkNew_agg, mkNew_zc, ld_top, ld_old, ld_setN, sto_top, sto_old, sto_setN, faddr_ptr, faddr_eptr, ld_eptr, new_m', new_n', setN_m', setN_n', st0_m', st0_n', put_m', put_n', AV.cells, AV.one, AV.stor, ldCells, setElem, splice, List.all_cons, List.all_nil, List.length_cons, List.length_nil, List.drop, List.take, List.head?_cons, List.getElem?_cons_zero, List.getElem?_cons_succ, List.set_cons_zero, List.nil_append, List.cons_append, List.append_nil, List.drop_zero, List.drop_succ_cons, List.drop_nil, List.take_zero, List.take_succ_cons, List.take_nil, cond_true, cond_false, Bool.and_self, Bool.and_true, and_self, and_true, true_and, if_true, bind_some', Nat.add_zero, Nat.zero_add, Nat.reduceAdd, Nat.reduceLeDiff, ne_eq, not_false_eq_true, Nat.add_eq_zero_iff, Nat.reduceEqDiff, one_ne_zero', zero_ne_one', nne1, nne2, nne3, Nat.add_right_cancel_iff, Nat.add_left_cancel_iff, Nat.le_refl, reduceCtorEq, bind_some', aBin_lss, aBin_leq, aBin_gtr, aBin_geq, aBin_eql, aBin_neq, aBin_add, aBin_sub, aBin_mul, aBin_seql, aBin_sneq, aBinb_eql, aBinb_neq, aUn_not, aUn_neg, aSlen_str, extr0, extr1, extr2]
  repeat' first
    | (refine Ok.cnd (fun h => ?_) fun h => ?_) | (refine Ok.cndn (fun h => ?_) fun h => ?_) | (refine Ok.cndb (fun h => ?_) fun h => ?_) | (refine Ok.cndnb (fun h => ?_) fun h => ?_)
  all_goals refine Ok.retb (by (try simp only [new_n', setN_n', st0_n', put_n'] at *); first | omega | exact Nat.le_succ _ | exact Nat.le_refl _) ?_
  all_goals (cases p; cases q; grind)
theorem eqFactor_g (f g : Fac) : Gives i_laws_eqFactor [facV f, facV g] (.bool (decide (f = g))) := by
  intro n
  rw [call_laws_eqFactor]
  simp only [facV, retV_one, retV_two, retV_three, mkNew_agg, mkNew_zc, ld_top, ld_old, ld_setN, sto_top, sto_old, sto_setN, faddr_ptr, faddr_eptr, ld_eptr, new_m', new_n', setN_m', setN_n', st0_m', st0_n', put_m', put_n', AV.cells, AV.one, AV.stor, ldCells, setElem, splice, List.all_cons, List.all_nil, List.length_cons, List.length_nil, List.drop, List.take, List.head?_cons, List.getElem?_cons_zero, List.getElem?_cons_succ, List.set_cons_zero, List.nil_append, List.cons_append, List.append_nil, List.drop_zero, List.drop_succ_cons, List.drop_nil, List.take_zero, List.take_succ_cons, List.take_nil, cond_true, cond_false, Bool.and_self, Bool.and_true, and_self, and_true, true_and, if_true, bind_some', Nat.add_zero, Nat.zero_add, Nat.reduceAdd, Nat.reduceLeDiff, ne_eq, not_false_eq_true, Nat.add_eq_zero_iff, Nat.reduceEqDiff, one_ne_zero', zero_ne_one', nne1, nne2, nne3, Nat.add_right_cancel_iff, Nat.add_left_cancel_iff, Nat.le_refl, reduceCtorEq, bind_some', aBin_lss, aBin_leq, aBin_gtr, aBin_geq, aBin_eql, aBin_neq, aBin_add, aBin_sub, aBin_mul, aBin_seql, aBin_sneq, aBinb_eql, aBinb_neq, aUn_not, aUn_neg, aSlen_str, extr0, extr1, extr2]
  repeat' first
    | (refine Ok.cnd (fun h => ?_) fun h => ?_) | (refine Ok.cndn (fun h => ?_) fun h => ?_) | (refine Ok.cndb (fun h => ?_) fun h => ?_) | (refine Ok.cndnb (fun h => ?_) fun h => ?_)
    | (refine Ok.gives (eqPose_g f.p g.p) (pB rfl) fun m hm => ?_; (simp only [retV_one, retV_two, retV_three, mkNew_agg, mkNew_zc, ld_top, ld_old, ld_setN, sto_top, sto_old, sto_setN, faddr_ptr, faddr_eptr, ld_eptr, new_m', new_n', setN_m', setN_n', st0_m', st0_n', put_m', put_n', AV.cells, AV.one, AV.stor, ldCells, setElem, splice, List.all_cons, List.all_nil, List.length_cons, List.length_nil, List.drop, List.take, List.head?_cons, List.getElem?_cons_zero, List.getElem?_cons_succ, List.set_cons_zero, List.nil_append, List.cons_append, List.append_nil, List.drop_zero, List.drop_succ_cons, List.drop_nil, List.take_zero, List.take_succ_cons, List.take_nil, cond_true, cond_false, Bool.and_self, Bool.and_true, and_self, and_true, true_and, if_true, bind_some', Nat.add_zero, Nat.zero_add, Nat.reduceAdd, Nat.reduceLeDiff, ne_eq, not_false_eq_true, Nat.add_eq_zero_iff, Nat.reduceEqDiff, one_ne_zero', zero_ne_one', nne1, nne2, nne3, Nat.add_right_cancel_iff, Nat.add_left_cancel_iff, Nat.le_refl, reduceCtorEq, bind_some', aBin_lss, aBin_leq, aBin_gtr, aBin_geq, aBin_eql, aBin_neq, aBin_add, aBin_sub, aBin_mul, aBin_seql, aBin_sneq, aBinb_eql, aBinb_neq, aUn_not, aUn_neg, aSlen_str, extr0, extr1, extr2]))
  all_goals refine Ok.retb (by (try simp only [new_n', setN_n', st0_n', put_n'] at *); first | omega | exact Nat.le_succ _ | exact Nat.le_refl _) ?_
  all_goals (cases f; cases g; grind)

theorem eqFactorS_ok {x0 x1 : AV} {l1 l2 : List Fac} (h0 : FS x0 l1) (h1 : FS x1 l2) (hb : l1.length ≤ 4294967296) (n : Nat) : Ok (L.call i_laws_eqFactorS [x0, x1] n) fun p => n ≤ p.2 ∧ p.1 = .bool (decide (l1 = l2)) := by
  rw [call_laws_eqFactorS, SlOf.len h0, SlOf.len h1]
  simp only [bind_some', aBin_neq, cnd_dec]
  by_cases hl : l1.length = l2.length
  · rw [if_neg (by omega)]
    obtain ⟨n', g1, g2⟩ := eq_loop (fun i n => L.loop [0, 1, 5] [4] b_laws_eqFactorS_1 [x0, x1, .int .i64 i] (st0 n)) l1 l2 (fun n => (.exit 0, [.undef], st0 n)) (fun n => (.ret, [.bool false], st0 n)) hl
      (fun n => by
        rw [loop_laws_eqFactorS_1, SlOf.len h0]
        simp only [bind_some', aBin_lss, cnd_dec, Int.lt_irrefl, if_false])
      (fun i x y n hx hy => by
        have hi := (List.getElem?_eq_some_iff.1 hx).1
        obtain ⟨p, q1, _, q2⟩ := FS.get (st := st0 n) h0 hx .i64
        obtain ⟨p', q1', _, q2'⟩ := FS.get (st := st0 n) h1 hy .i64
        obtain ⟨⟨v, n'⟩, c1, c2, c3⟩ := eqFactor_g x y n
        simp only at c3; subst c3
        refine ⟨n', c2, ?_⟩
        rw [loop_laws_eqFactorS_1, SlOf.len h0]
        simp only [bind_some', aBin_lss, cnd_dec, q1, q2, q1', q2', aBin_add]
        rw [if_pos (by omega), wrap64 (by omega) (by omega), call_plain (plain2 (fac_plain x) (fac_plain y)) c1, bind_some']
        simp only [aUn_not, bind_some', cnd_ndec]
        rfl)
      l1.length 0 n (by omega)
    rw [show ((0 : Nat) : Int) = 0 from rfl] at g2
    rw [g2]
    simp only [List.drop_zero]
    by_cases hx : l1 = l2
    · rw [if_pos hx, bind_some', k_laws_eqFactorS_1_0, resTup_bool]
      exact ⟨_, rfl, g1, by simp [hx]⟩
    · rw [if_neg hx, bind_some', k_laws_eqFactorS_1_ret, resTup_bool]
      exact ⟨_, rfl, g1, by simp [hx]⟩
  · rw [if_pos (by omega), resTup_bool]
    exact ⟨_, rfl, Nat.le_refl _, by rw [decide_eq_false fun e => hl (congrArg _ e)]⟩

theorem t_eq_FactorS {v u : AV} {x y : List Fac} (h : FS v x) (k : FS u y) (s : sm_FactorS x) (n : Nat) : Ok (L.call i_laws_eqFactorS [v, u] n) fun p => n ≤ p.2 ∧ p.1 = .bool (decide (x = y)) := eqFactorS_ok h k (by have := s.1; omega) n

def dgt (k : Int) : ByteArray := ⟨[UInt8.ofNat (IntKind.wrap .u8 (IntKind.wrap .i64 (48 + k.tmod 10))).toNat].toArray⟩
def textF : Nat → Int → ByteArray → ByteArray
  | 0, _, acc => acc
  | f + 1, k, acc => if 0 < k then textF f (k.tdiv 10) (dgt k ++ acc) else acc
def mkStr (_ : ByteArray) (k : Int) : ByteArray := if k ≤ 0 then ⟨#[109, 48]⟩ else ⟨#[109]⟩ ++ textF 20 k ⟨#[]⟩
theorem textF_size : ∀ (f : Nat) (k : Int) (acc : ByteArray), (textF f k acc).size ≤ acc.size + f
  | 0, _, _ => Nat.le_refl _
  | f + 1, k, acc => by
    unfold textF
    split
    · have := textF_size f (k.tdiv 10) (dgt k ++ acc)
      have e : (dgt k ++ acc).size = 1 + acc.size := by rw [ByteArray.size_append]; rfl
      omega
    · omega
theorem mkStr_size (x : ByteArray) (k : Int) : (mkStr x k).size ≤ 1048576 := by
  unfold mkStr
  split
  · decide
  · have := textF_size 20 k ⟨#[]⟩
    rw [ByteArray.size_append]
    have e : (⟨#[109]⟩ : ByteArray).size = 1 := rfl
    have e2 : (⟨#[]⟩ : ByteArray).size = 0 := rfl
    omega
theorem markText_loop (n0 : Nat) : ∀ (f : Nat) (k : Int) (acc : ByteArray) (st : St), 0 ≤ k → k ≤ 9223372036854775807 → k < 10 ^ f → acc.size + f ≤ 1048576 → n0 ≤ st.n →
    ∃ st', n0 ≤ st'.n ∧ L.loop [0, 3] [2, 3] b_laws_markText_1 [.int .i64 k, .str acc] st = some (.exit 0, [.undef, .str (textF f k acc)], st')
  | 0, k, acc, st, h0, hM, h1, h2, hn => by
    have : k = 0 := by omega
    subst this
    rw [loop_laws_markText_1]
    simp only [bind_some', aBin_lss, aBin_leq, aBin_gtr, aBin_geq, aBin_eql, aBin_neq, aBin_add, aBin_sub, aBin_mul, aBin_seql, aBin_sneq, aBinb_eql, aBinb_neq, aUn_not, aUn_neg, aSlen_str, extr0, extr1, extr2, cnd_dec, Int.lt_irrefl, if_false]
    exact ⟨st, hn, rfl⟩
  | f + 1, k, acc, st, h0, hM, h1, h2, hn => by
    rw [loop_laws_markText_1]
    simp only [bind_some', aBin_lss, aBin_leq, aBin_gtr, aBin_geq, aBin_eql, aBin_neq, aBin_add, aBin_sub, aBin_mul, aBin_seql, aBin_sneq, aBinb_eql, aBinb_neq, aUn_not, aUn_neg, aSlen_str, extr0, extr1, extr2, cnd_dec]
    by_cases hk : 0 < k
    · rw [if_pos hk]
      have hq : k.tdiv 10 = k / 10 := Int.tdiv_eq_ediv_of_nonneg h0
      have hlt : k / 10 < 10 ^ f := by
        have : (10 : Int) ^ (f + 1) = 10 ^ f * 10 := by rw [Int.pow_succ]
        omega
      obtain ⟨st', g1, g2⟩ := markText_loop n0 f (k.tdiv 10) (dgt k ++ acc) (st.new 1 [.int .u8 (IntKind.wrap .u8 (IntKind.wrap .i64 (48 + k.tmod 10)))]) (by omega) (by omega) (by omega) (by
        have e : (dgt k ++ acc).size = 1 + acc.size := by rw [ByteArray.size_append]; rfl
        omega) (Nat.le_trans hn (Nat.le_succ _))
      refine ⟨st', g1, ?_⟩
      have hb : aB2s (st.new 1 [.int .u8 (IntKind.wrap .u8 (IntKind.wrap .i64 (48 + k.tmod 10)))]) (.lsl st.m st.n 1 0 1) = some (.str (dgt k)) := by
        have := (Loc.new (st := st) (s := 1) (es := [.int .u8 (IntKind.wrap .u8 (IntKind.wrap .i64 (48 + k.tmod 10)))])).elems
        unfold aB2s
        rw [show (AV.lsl st.m st.n 1 0 1) = .lsl st.m st.n 1 0 [AV.int .u8 (IntKind.wrap .u8 (IntKind.wrap .i64 (48 + k.tmod 10)))].length from rfl, this]
        simp [bytesOf, stride, dgt]
      have ha : aBin .add (.str (dgt k)) (.str acc) = some (.str (dgt k ++ acc)) := by
        have e : (dgt k).size = 1 := rfl
        simp only [aBin, sBin]
        rw [if_pos (by omega)]
      rw [aBin_rem _ _ _ (show (10 : Int) ≠ 0 by omega), bind_some']
      simp only [aBin_add, bind_some', aConv_int]
      rw [lit1 (s := 1) (z := .int .u8 0) rfl rfl (by omega) rfl rfl, hb, bind_some', ha, bind_some', aBin_quo _ _ _ (show (10 : Int) ≠ 0 by omega), bind_some', wrap64 (by omega) (by omega), g2]
      simp only [textF, if_pos hk]
    · rw [if_neg hk]
      simp only [textF, if_neg hk]
      exact ⟨st, hn, rfl⟩
theorem markText_g (x : ByteArray) (k : Int) (hk : k ≤ 9223372036854775807) : Gives i_laws_markText [.int .i64 k] (.str (mkStr x k)) := by
  intro n
  rw [call_laws_markText]
  simp only [bind_some', aBin_lss, aBin_leq, aBin_gtr, aBin_geq, aBin_eql, aBin_neq, aBin_add, aBin_sub, aBin_mul, aBin_seql, aBin_sneq, aBinb_eql, aBinb_neq, aUn_not, aUn_neg, aSlen_str, extr0, extr1, extr2]
  refine Ok.cnd (fun h => ?_) fun h => ?_
  · refine Ok.ret (by first | rfl | (simp only [retV_one, retV_two, retV_three]; rfl)) (by (try simp only [new_n', setN_n', st0_n', put_n'] at *); first | omega | exact Nat.le_succ _ | exact Nat.le_refl _) ?_
    simp only [mkStr, if_pos h]
  · obtain ⟨st', g1, g2⟩ := markText_loop n 20 k ⟨#[]⟩ (st0 n) (by omega) hk (by omega) (by decide) (Nat.le_refl _)
    rw [g2, bind_some', k_laws_markText_1_0]
    have hs := textF_size 20 k ⟨#[]⟩
    have ha : aBin .add (.str ⟨#[109]⟩) (.str (textF 20 k ⟨#[]⟩)) = some (.str (⟨#[109]⟩ ++ textF 20 k ⟨#[]⟩)) := by
      have e : (⟨#[109]⟩ : ByteArray).size = 1 := rfl
      have e2 : (⟨#[]⟩ : ByteArray).size = 0 := rfl
      simp only [aBin, sBin]
      rw [if_pos (by omega)]
    rw [ha, bind_some']
    refine Ok.ret rfl g1 ?_
    simp only [mkStr, if_neg h]

def mkFac (f : Fac) (k : Int) : Fac := ⟨k, k + 1, mkStr f.frm (k + 2), mkStr f.to (k + 3), ⟨k + 4, k + 5, k + 6⟩, k + 7⟩
theorem markFactorS_inl : Marks L i_laws_markFactorS FS FS (mkL mkFac fun _ => 8) (cntL fun _ => 8) (fun l => l.length ≤ 1048576) := by
  intro st a b v T l k hO hb hT hbig hk hc
  rw [inl_laws_markFactorS]
  rcases hO.slice hT with ⟨rfl, rfl, rfl⟩ | ⟨t, j, vs, es, rfl, rfl, h1, h2, h3, h4, h5⟩
  · rw [loop_laws_markFactorS_1]
    simp only [aLen, bind_some', aBin_lss, cnd_dec, Int.lt_irrefl, if_false, k_laws_markFactorS_1i_0]
    exact ⟨_, rfl, by simp [cntL], Keep.refl _ _ _, .nils, hO, hT⟩
  · have hlen := h5.length; have hlen2 := h4.length
    obtain ⟨st', rv', rT', e, g1, g2, g3, g4, g5, g6⟩ := mark_loop (Lp := fun i k st => L.loop [0, 1, 5] [1, 4] b_laws_markFactorS_1 [.lsl j t 8 0 l.length, .int .i64 k, .int .i64 i] st) (N := l.length) (j := j) (t := t) (s := 8) (R := RF) (R' := RF) (mk := mkFac) (c := fun _ => 8)
      (fun d v rv T x x0 y0 k st hH hO hR hy hj hk hc hdl => by
        cases hR
        have hv := hO.flat (by simp [facV, dep, depL])
        subst hv
        obtain ⟨⟨r1, n1⟩, c1, d1, d2⟩ := markText_g x.frm (k + 2) (by omega) st.n
        simp only at d2; subst d2
        obtain ⟨⟨r2, n2⟩, c2, d3, d4⟩ := markText_g x.to (k + 3) (by omega) n1
        simp only at d4; subst d4
        have d1' : st.n ≤ n1 := d1
        have d3' : n1 ≤ n2 := d3
        refine ⟨(st.put j ⟨t, 8, d ++ facV (mkFac x k) :: rv⟩).setN n2, facV (mkFac x k), facV (mkFac x k), ?_, by simp only [St.setN]; exact put_H _ _ _, flat_own hO.le rfl rfl, rfl, fun i _ h _ => by simp only [St.setN]; exact put_H_ne h, Nat.le_refl _, by simp only [setN_n]; omega⟩
        simp only
        rw [loop_laws_markFactorS_1]
        have ia : aIaddr 8 (.lsl j t 8 0 l.length) (.int .i64 (d.length : Nat)) = some (.ptr j t d.length 0) := iaddr_mid (by omega)
        simp only [aLen, bind_some', aBin_lss, cnd_dec, aBin_add, ia, faddr_ptr, Nat.zero_add]
        rw [if_pos (by omega)]
        have w1 : IntKind.wrap .i64 (k + 1) = k + 1 := wrap64 (by omega) (by omega)
        have w2 : IntKind.wrap .i64 (k + 1 + 1) = k + 2 := by rw [wrap64 (by omega) (by omega)]; omega
        have w3 : IntKind.wrap .i64 (k + 2 + 1) = k + 3 := by rw [wrap64 (by omega) (by omega)]; omega
        have w4 : IntKind.wrap .i64 (k + 3 + 1) = k + 4 := by rw [wrap64 (by omega) (by omega)]; omega
        have w5 : IntKind.wrap .i64 (k + 4 + 1) = k + 5 := by rw [wrap64 (by omega) (by omega)]; omega
        have w6 : IntKind.wrap .i64 (k + 5 + 1) = k + 6 := by rw [wrap64 (by omega) (by omega)]; omega
        have w7 : IntKind.wrap .i64 (k + 6 + 1) = k + 7 := by rw [wrap64 (by omega) (by omega)]; omega
        have w8 : IntKind.wrap .i64 (k + 7 + 1) = k + 8 := by rw [wrap64 (by omega) (by omega)]; omega
        have w9 : IntKind.wrap .i64 ((d.length : Int) + 1) = (d.length : Int) + 1 := wrap64 (by omega) (by omega)
        simp only [w1, w2, w3, w4, w5, w6, w7, w8, w9]
        have sto : ∀ (cs : List AV) (m f : Nat) (v : AV), f < cs.length → v.one = true → aStore 1 (.ptr j t d.length f) v ((st.put j ⟨t, 8, d ++ .agg cs :: rv⟩).setN m) = some ((st.put j ⟨t, 8, d ++ .agg (cs.set f v) :: rv⟩).setN m) := fun cs m f v hf hv => by
          have := store_mid (st := (st.put j ⟨t, 8, d ++ .agg cs :: rv⟩).setN m) (v := v) (put_H _ _ _) hf hv
          rw [this]
          have e := put_put st j ⟨t, 8, d ++ .agg cs :: rv⟩ ⟨t, 8, d ++ .agg (cs.set f v) :: rv⟩
          rw [← e]; rfl
        have cl : ∀ (S : St) (m m' : Nat) (q : Int) (r : AV), L.call i_laws_markText [.int .i64 q] m = some (r, m') → clV L i_laws_markText 0 [.int .i64 q] (S.setN m) = some (r, S.setN m') := fun S m m' q r h => call_plain (st := S.setN m) (plain1 (plain_int _ _)) h
        rw [store_mid (v := .int .i64 k) hH (by simp) rfl, bind_some', show ∀ A, st.put j A = (st.put j A).setN st.n from fun _ => rfl, sto _ _ _ _ (by simp) rfl, bind_some', cl _ _ _ _ _ c1, bind_some', sto _ _ _ _ (by simp) rfl, bind_some', cl _ _ _ _ _ c2, bind_some', sto _ _ _ _ (by simp) rfl, bind_some',
          sto _ _ _ _ (by simp) rfl, bind_some', sto _ _ _ _ (by simp) rfl, bind_some', sto _ _ _ _ (by simp) rfl, bind_some', sto _ _ _ _ (by simp) rfl]
        rfl)
      l [] vs es a k st h1 h4 h5 (by omega) hk hc (by simp)
    simp only [List.length_nil, Nat.zero_add] at e
    rw [show ((0 : Nat) : Int) = 0 from rfl] at e
    rw [e, loop_laws_markFactorS_1]
    simp only [aLen, bind_some', aBin_lss, cnd_dec, Int.lt_irrefl, if_false, k_laws_markFactorS_1i_0]
    refine ⟨_, rfl, rfl, ⟨fun i hi hn => g4 i hi (by omega), g5, g6⟩, .sl t 0 8 rT', ?_, ?_⟩
    · simp only [Own]
      have := g3.length; rw [mkL_length] at this
      exact ⟨by trivial, j, rv', by rw [this], by simpa using g1, h2, h3, g2⟩
    · exact ⟨rT', .inr ⟨_, _, rfl⟩, g3⟩

def mk_FactorS (x : List Fac) (k : Int) : List Fac := mkL mkFac (fun _ => 8) x k
def cnt_FactorS (x : List Fac) : Nat := cntL (fun _ => 8) x
theorem cntB_FactorS {x : List Fac} (s : sm_FactorS x) : cnt_FactorS x ≤ 2000000000000000 := by
  have : ∀ l : List Fac, cntL (fun _ => 8) l = 8 * l.length := by
    intro l
    induction l with
    | nil => rfl
    | cons y l ih => simp only [cntL, ih, List.length_cons]; omega
  have h1 := s.1
  unfold cnt_FactorS; rw [this]; omega
theorem t_mark_FactorS : Marks L i_laws_markFactorS FS FS mk_FactorS cnt_FactorS sm_FactorS := fun st a b v T x k h1 h2 h3 h4 h5 h6 => markFactorS_inl st a b v T x k h1 h2 h3 h4.1 h5 h6

def mk_BoolSS (x : List (List Bool)) (k : Int) : List (List Bool) := mkL (mkL mkB fun _ => 1) (cntL fun _ => 1) x k
def cnt_BoolSS (x : List (List Bool)) : Nat := cntL (cntL fun _ => 1) x
theorem cntL_le {α : Type} {c : α → Nat} {B : Nat} : ∀ {l : List α}, (∀ x ∈ l, c x ≤ B) → cntL c l ≤ l.length * B
  | [], _ => by simp [cntL]
  | x :: l, h => by
    have h1 := h x List.mem_cons_self
    have h2 := cntL_le (l := l) fun y hy => h y (List.mem_cons_of_mem _ hy)
    simp only [cntL, List.length_cons, Nat.succ_mul]; omega
theorem cntB_BoolSS {x : List (List Bool)} (s : sm_BoolSS x) : cnt_BoolSS x ≤ 2000000000000000 := by
  have := cntL_le (c := cntL fun _ => 1) (B := 1048576) (l := x) fun r hr => by rw [cnt_one]; exact s.2 r hr
  have h1 := s.1
  unfold cnt_BoolSS; omega

theorem markBoolS_inl : Marks L i_laws_markBoolS BS BS (mkL mkB fun _ => 1) (cntL fun _ => 1) (fun _ => True) := by
  intro st a b v T l k hO hb hT _ hk hc
  have hcl := cnt_one l
  rw [inl_laws_markBoolS]
  rcases hO.slice hT with ⟨rfl, rfl, rfl⟩ | ⟨t, j, vs, es, rfl, rfl, h1, h2, h3, h4, h5⟩
  · rw [loop_laws_markBoolS_1]
    simp only [aLen, bind_some', aBin_lss, cnd_dec, Int.lt_irrefl, if_false, k_laws_markBoolS_1i_0]
    exact ⟨_, rfl, by simp [cntL], Keep.refl _ _ _, .nils, hO, hT⟩
  · have hlen := h5.length; have hlen2 := h4.length
    obtain ⟨st', rv', rT', e, g1, g2, g3, g4, g5, g6⟩ := mark_loop (Lp := fun i k st => L.loop [0, 1, 5] [1, 4] b_laws_markBoolS_1 [.lsl j t 1 0 l.length, .int .i64 k, .int .i64 i] st) (N := l.length) (j := j) (t := t) (s := 1) (R := RB) (R' := RB) (mk := mkB) (c := fun _ => 1)
      (fun d v rv T x x0 y0 k st hH hO hR hy hj hk hc hdl => by
        cases hR
        have hv := hO.flat (by simp [dep])
        subst hv
        refine ⟨st.put j ⟨t, 1, d ++ .bool (mkB true k) :: rv⟩, .bool (mkB true k), .bool (mkB true k), ?_, put_H _ _ _, flat_own hO.le rfl rfl, rfl, fun i _ h _ => put_H_ne h, Nat.le_refl _, Nat.le_refl _⟩
        simp only
        rw [loop_laws_markBoolS_1]
        simp only [aLen, bind_some', aBin_lss, cnd_dec, aBin_add, aBin_rem _ _ _ (show (3 : Int) ≠ 0 by omega), aBin_eql]
        rw [if_pos (by omega), iaddr_mid (by omega), bind_some', store_mid1 hH rfl rfl, bind_some', wrap64 (by omega) (by omega), wrap64 (by omega) (by omega)]
        rfl)
      l [] vs es a k st h1 h4 h5 (by omega) hk hc (by simp)
    simp only [List.length_nil, Nat.zero_add] at e
    rw [show ((0 : Nat) : Int) = 0 from rfl] at e
    rw [e, loop_laws_markBoolS_1]
    simp only [aLen, bind_some', aBin_lss, cnd_dec, Int.lt_irrefl, if_false, k_laws_markBoolS_1i_0]
    refine ⟨_, rfl, rfl, ⟨fun i hi hn => g4 i hi (by omega), g5, g6⟩, .sl t 0 1 rT', ?_, ?_⟩
    · simp only [Own]
      have := g3.length; rw [mkL_length] at this
      exact ⟨by trivial, j, rv', by rw [this], by simpa using g1, h2, h3, g2⟩
    · exact ⟨rT', .inr ⟨_, _, rfl⟩, g3⟩

theorem markBoolSS_inl : Marks L i_laws_markBoolSS BSS BSS (mkL (mkL mkB fun _ => 1) (cntL fun _ => 1)) (cntL (cntL fun _ => 1)) (fun l => l.length ≤ 1048576) := by
  intro st a b v T l k hO hb hT hbig hk hc
  rw [inl_laws_markBoolSS]
  rcases hO.slice hT with ⟨rfl, rfl, rfl⟩ | ⟨t, j, vs, es, rfl, rfl, h1, h2, h3, h4, h5⟩
  · rw [loop_laws_markBoolSS_1]
    simp only [aLen, bind_some', aBin_lss, cnd_dec, Int.lt_irrefl, if_false, k_laws_markBoolSS_1i_0]
    exact ⟨_, rfl, by simp [cntL], Keep.refl _ _ _, .nils, hO, hT⟩
  · have hlen := h5.length; have hlen2 := h4.length
    obtain ⟨st', rv', rT', e, g1, g2, g3, g4, g5, g6⟩ := mark_loop (Lp := fun i k st => L.loop [0, 1, 5] [1, 4] b_laws_markBoolSS_1 [.lsl j t 1 0 l.length, .int .i64 k, .int .i64 i] st) (N := l.length) (j := j) (t := t) (s := 1) (R := BS) (R' := BS) (mk := mkL mkB fun _ => 1) (c := cntL fun _ => 1)
      (fun d v rv T x x0 y0 k st hH hO hR hy hj hk hc hdl => by
        have hone : v.one = true := by
          rcases hO.slice hR with ⟨rfl, _, _⟩ | ⟨_, _, _, _, _, rfl, _⟩ <;> rfl
        obtain ⟨⟨kv, st1⟩, m1, m2, m3, T', m4, m5⟩ := markBoolS_inl st x0 y0 v T x k hO (by omega) hR trivial hk hc
        simp only at m2; subst m2
        refine ⟨st1, v, T', ?_, by rw [m3.1 j hj (by omega)]; exact hH, m4, m5, fun i h1 h2 h3 => m3.1 i h1 h3, m3.2.1, m3.2.2⟩
        simp only
        rw [loop_laws_markBoolSS_1]
        simp only [aLen, bind_some', aBin_lss, cnd_dec, aBin_add]
        rw [if_pos (by omega), iaddr_mid (by omega), bind_some', load_mid hH, List.drop_zero, ld_one hone, bind_some', m1, bind_some', wrap64 (by omega) (by omega)]
        rfl)
      l [] vs es a k st h1 h4 h5 (by omega) hk hc (by simp)
    simp only [List.length_nil, Nat.zero_add] at e
    rw [show ((0 : Nat) : Int) = 0 from rfl] at e
    rw [e, loop_laws_markBoolSS_1]
    simp only [aLen, bind_some', aBin_lss, cnd_dec, Int.lt_irrefl, if_false, k_laws_markBoolSS_1i_0]
    refine ⟨_, rfl, rfl, ⟨fun i hi hn => g4 i hi (by omega), g5, g6⟩, .sl t 0 1 rT', ?_, ?_⟩
    · simp only [Own]
      have := g3.length; rw [mkL_length] at this
      exact ⟨by trivial, j, rv', by rw [this], by simpa using g1, h2, h3, g2⟩
    · exact ⟨rT', .inr ⟨_, _, rfl⟩, g3⟩

theorem t_mark_BoolSS : Marks L i_laws_markBoolSS BSS BSS mk_BoolSS cnt_BoolSS sm_BoolSS := fun st a b v T x k h1 h2 h3 h4 h5 h6 => markBoolSS_inl st a b v T x k h1 h2 h3 h4.1 h5 h6

theorem heldBoolS_ok : Helds i_laws_heldBoolS BS (mkL mkB fun _ => 1) (cntL fun _ => 1) := by
  intro v l k n hv hk hc
  obtain ⟨es, h1, h2⟩ := hv
  have hlen := h2.length
  rw [mkL_length] at hlen
  have hcl := cnt_one l
  rw [call_laws_heldBoolS]
  have A : ∀ {st : St}, Arr st 1 v es := h1.arr
  obtain ⟨n', g1, g2⟩ := held_loop (R := RB) (mk := mkB) (c := fun _ => 1) (fun i k n => L.loop [0, 1, 5] [1, 4] b_laws_heldBoolS_1 [v, .int .i64 k, .int .i64 i] (st0 n)) es
    (fun i e x k n hi he hk hc => by
      have hi' := (List.getElem?_eq_some_iff.1 hi).1
      obtain ⟨p, q1, q2⟩ := (A (st := st0 n)).at hi' .i64
      have he' : es[i] = .bool (mkB x k) := by rw [List.getElem?_eq_getElem hi'] at hi; cases hi; exact he
      refine ⟨n, Nat.le_refl _, ?_⟩
      rw [loop_laws_heldBoolS_1, (A (st := st0 n)).len]
      simp only [bind_some', aBin_lss, cnd_dec, q1, q2, he', ld_one (e := .bool (decide (k.tmod 3 = 0))) rfl, aBin_rem _ _ _ (show (3 : Int) ≠ 0 by omega), aBin_eql, aBinb_neq, mkB, not_true_eq_false, if_false, aBin_add]
      rw [if_pos (by omega), wrap64 (by omega) (by omega), wrap64 (by omega) (by omega)]; rfl)
    l 0 k n (by simpa using h2) (Nat.zero_le _) hk hc
  rw [show ((0 : Nat) : Int) = 0 from rfl] at g2
  rw [g2, loop_laws_heldBoolS_1, (A (st := st0 n')).len]
  simp only [bind_some', aBin_lss, cnd_dec, Int.lt_irrefl, if_false, k_laws_heldBoolS_1_0, resTup_int]
  exact ⟨_, rfl, g1, rfl⟩
theorem heldBoolSS_ok : ∀ (v : AV) (l : List (List Bool)) (k : Int) (n : Nat), BSS v (mkL (mkL mkB fun _ => 1) (cntL fun _ => 1) l k) → l.length ≤ 1048576 → 0 ≤ k → k + cntL (cntL fun _ => 1) l ≤ 4611686018427387904 → Ok (L.call i_laws_heldBoolSS [v, .int .i64 k] n) fun p => n ≤ p.2 ∧ p.1 = .int .i64 (k + cntL (cntL fun _ => 1) l) := by
  intro v l k n hv hbig hk hc
  obtain ⟨es, h1, h2⟩ := hv
  have hlen := h2.length
  rw [mkL_length] at hlen
  rw [call_laws_heldBoolSS]
  have A : ∀ {st : St}, Arr st 1 v es := h1.arr
  obtain ⟨n', g1, g2⟩ := held_loop (R := BS) (mk := mkL mkB fun _ => 1) (c := cntL fun _ => 1) (fun i k n => L.loop [0, 1, 5] [1, 4] b_laws_heldBoolSS_1 [v, .int .i64 k, .int .i64 i] (st0 n)) es
    (fun i e x k n hi he hk hc => by
      have hi' := (List.getElem?_eq_some_iff.1 hi).1
      obtain ⟨p, q1, q2⟩ := (A (st := st0 n)).at hi' .i64
      have he' : es[i] = e := by rw [List.getElem?_eq_getElem hi'] at hi; cases hi; rfl
      obtain ⟨⟨r, n2⟩, c1, c2, c3⟩ := heldBoolS_ok e x k n he hk hc
      simp only at c3; subst c3
      refine ⟨n2, c2, ?_⟩
      rw [loop_laws_heldBoolSS_1, (A (st := st0 n)).len]
      simp only [bind_some', aBin_lss, cnd_dec, q1, q2, he', ld_one (SlOf.one he)]
      rw [if_pos (by omega), call_plain (plain2 (BS.plain he) (plain_int _ _)) c1, bind_some']
      simp only [aBin_lss, bind_some', cnd_dec, aBin_add]
      rw [if_neg (by omega), wrap64 (by omega) (by omega)]; rfl)
    l 0 k n (by simpa using h2) (Nat.zero_le _) hk hc
  rw [show ((0 : Nat) : Int) = 0 from rfl] at g2
  rw [g2, loop_laws_heldBoolSS_1, (A (st := st0 n')).len]
  simp only [bind_some', aBin_lss, cnd_dec, Int.lt_irrefl, if_false, k_laws_heldBoolSS_1_0, resTup_int]
  exact ⟨_, rfl, g1, rfl⟩

theorem t_held_BoolSS (v : AV) (x : List (List Bool)) (k : Int) (n : Nat) (h : BSS v (mk_BoolSS x k)) (hs : sm_BoolSS x) (hk : 0 ≤ k) (hc : k + cnt_BoolSS x ≤ 4611686018427387904) : Ok (L.call i_laws_heldBoolSS [v, .int .i64 k] n) fun p => n ≤ p.2 ∧ p.1 = .int .i64 (k + cnt_BoolSS x) := heldBoolSS_ok v x k n h hs.1 hk hc

/-- whole numbers in a row, as they lie in memory -/
theorem ri_flat {es : List AV} {l : List Int} (h : All2 RI es l) : depL es = 0 ∧ thBL es = true ∧ ∀ e ∈ es, Plain e := by
  have := flatL (vs := es) fun v hv => by obtain ⟨x, _, rfl⟩ := h.mem v hv; exact ⟨by simp [dep], rfl⟩
  exact ⟨this.1, this.2, fun e he => by obtain ⟨x, _, rfl⟩ := h.mem e he; exact plain_int _ _⟩
def AccI (n0 : Nat) (st : St) (v : AV) (l : List Int) : Prop := ∃ es, Acc n0 st 1 v es ∧ All2 RI es l
theorem AccI.lt {n0 : Nat} {st : St} {v : AV} {l : List Int} (h : AccI n0 st v l) {q : Nat} (hq : isAt v q) : q < st.m := by
  obtain ⟨es, h, _⟩ := h; exact h.lt hq
theorem AccI.nil {n0 : Nat} {st : St} : AccI n0 st .nils [] := ⟨[], .nil, rfl⟩
theorem AccI.lit {n0 : Nat} {st : St} (h : n0 ≤ st.n) : AccI n0 (st.new 1 []) (.lsl st.m st.n 1 0 0) [] := ⟨[], .lit h, rfl⟩
theorem AccI.fin {n0 : Nat} {st : St} {v : AV} {l : List Int} (h : AccI n0 st v l) : ∃ T, resTup st v = some T ∧ res st v = some T ∧ IS T l ∧ New 1 n0 st.n T := by
  obtain ⟨es, h, k⟩ := h
  obtain ⟨f1, f2, f3⟩ := ri_flat k
  obtain ⟨T, h1, h2, h3, h4, _⟩ := h.fin (d := 0) f3
  exact ⟨T, h1, h2, ⟨es, h3, k⟩, h4 (by omega) f1 f2⟩
theorem AccI.len {n0 : Nat} {st : St} {v : AV} {l : List Int} (h : AccI n0 st v l) : aLen v = some (.int .i64 l.length) := by
  obtain ⟨es, h, k⟩ := h; rw [h.arr.len, k.length]
theorem AccI.get {n0 : Nat} {st : St} {v : AV} {l : List Int} (h : AccI n0 st v l) {i : Nat} {x : Int} (hx : l[i]? = some x) (kd : IntKind) : ∃ p, aIaddr 1 v (.int kd (i : Int)) = some p ∧ aLoad false 1 st p = some (.int .i64 x) := by
  obtain ⟨es, h, k⟩ := h
  obtain ⟨e, p, rfl, h1, h2⟩ := h.arr.get1 k hx (fun e he => by cases he; rfl) kd
  exact ⟨p, h1, h2⟩
theorem AccI.frame {n0 : Nat} {st st' : St} {v : AV} {l : List Int} (h : AccI n0 st v l) (k : ∀ i, i < st.m → st'.H i = st.H i) (hm : st.m ≤ st'.m) (hn : st.n ≤ st'.n) : AccI n0 st' v l := by
  obtain ⟨es, h, g⟩ := h; exact ⟨es, h.frame k hm hn, g⟩
theorem AccI.frame' {n0 : Nat} {st st' : St} {v : AV} {l : List Int} (h : AccI n0 st v l) (k : ∀ i, i < st.m → isAt v i → st'.H i = st.H i) (hm : st.m ≤ st'.m) (hn : st.n ≤ st'.n) : AccI n0 st' v l := by
  obtain ⟨es, h, g⟩ := h
  refine ⟨es, ?_, g⟩
  rcases h with ⟨rfl, rfl⟩ | ⟨j, t, h, h1, h2, h3⟩
  · exact .inl ⟨rfl, rfl⟩
  · exact .inr ⟨j, t, h.frame (k j h1 ⟨t, 1, 0, es.length, h.1⟩), by omega, h2, by omega⟩
theorem AccI.setN {n0 n' : Nat} {st : St} {v : AV} {l : List Int} (h : AccI n0 st v l) (hn : st.n ≤ n') : AccI n0 (st.setN n') v l := h.frame (fun _ _ => rfl) (Nat.le_refl _) hn
theorem Ok.pushI {β : Type} {n0 : Nat} {st : St} {v : AV} {x : Int} {l : List Int} {K : AV × St → Option β} {Q : β → Prop} (h : AccI n0 st v l) (hn : n0 ≤ st.n) (hl : l.length < 4294967296)
    (k : ∀ v' st', AccI n0 st' v' (l ++ [x]) → st.m ≤ st'.m → st.n ≤ st'.n → (∀ i, i < st.m → ¬ isAt v i → st'.H i = st.H i) → (∀ q, isAt v' q → isAt v q ∨ st.m ≤ q) → Ok (K (v', st')) Q) :
    Ok (mkLit 1 1 (.int .i64 0) [(0, .int .i64 x)] st fun y s2 => (aApp 1 v y s2).bind K) Q := by
  obtain ⟨es, h, g⟩ := h
  exact Ok.push h hn rfl rfl (by omega) rfl rfl (by rw [g.length]; omega) fun v' st' h1 h2 h3 h4 h5 => k v' st' ⟨_, h1, g.snoc rfl⟩ h2 h3 h4 h5
theorem IS.get {st : St} {v : AV} {l : List Int} (h : IS v l) {i : Nat} {x : Int} (hx : l[i]? = some x) (kd : IntKind) : ∃ p, aIaddr 1 v (.int kd (i : Int)) = some p ∧ aLoad false 1 st p = some (.int .i64 x) := by
  obtain ⟨e, rfl, h1⟩ := SlOf.idx h hx
  exact ⟨_, h1 kd, rfl⟩
theorem lit0_i {β : Type} {st : St} {K : AV → St → Option β} : mkLit 0 1 (.int .i64 0) [] st K = K (.lsl st.m st.n 1 0 0) (st.new 1 []) := lit0 (s := 1) rfl rfl (by omega)
theorem lit0_n {β : Type} {st : St} {K : AV → St → Option β} : mkLit 0 1 .nils [] st K = K (.lsl st.m st.n 1 0 0) (st.new 1 []) := lit0 (s := 1) rfl rfl (by omega)
theorem lit0_b {β : Type} {st : St} {K : AV → St → Option β} : mkLit 0 1 (.bool false) [] st K = K (.lsl st.m st.n 1 0 0) (st.new 1 []) := lit0 (s := 1) rfl rfl (by omega)

def AccB (n0 : Nat) (st : St) (v : AV) (l : List Bool) : Prop := ∃ es, Acc n0 st 1 v es ∧ All2 RB es l
theorem rb_flat {es : List AV} {l : List Bool} (h : All2 RB es l) : depL es = 0 ∧ thBL es = true ∧ ∀ e ∈ es, Plain e := by
  have := flatL (vs := es) fun v hv => by obtain ⟨x, _, rfl⟩ := h.mem v hv; exact ⟨by simp [dep], rfl⟩
  exact ⟨this.1, this.2, fun e he => by obtain ⟨x, _, rfl⟩ := h.mem e he; exact plain_bool _⟩
theorem Ok.pushB {β : Type} {n0 : Nat} {st : St} {v : AV} {x : Bool} {l : List Bool} {K : AV × St → Option β} {Q : β → Prop} (h : AccB n0 st v l) (hn : n0 ≤ st.n) (hl : l.length < 4294967296)
    (k : ∀ v' st', AccB n0 st' v' (l ++ [x]) → st.m ≤ st'.m → st.n ≤ st'.n → (∀ i, i < st.m → ¬ isAt v i → st'.H i = st.H i) → (∀ q, isAt v' q → isAt v q ∨ st.m ≤ q) → Ok (K (v', st')) Q) :
    Ok (mkLit 1 1 (.bool false) [(0, .bool x)] st fun y s2 => (aApp 1 v y s2).bind K) Q := by
  obtain ⟨es, h, g⟩ := h
  exact Ok.push h hn rfl rfl (by omega) rfl rfl (by rw [g.length]; omega) fun v' st' h1 h2 h3 h4 h5 => k v' st' ⟨_, h1, g.snoc rfl⟩ h2 h3 h4 h5
/-- a row in memory, and the tree that it reads as -/
def Leaf (st : St) (j : Nat) (e T : AV) : Prop := (e = .nils ∧ T = .nils) ∨ ∃ j' t es, e = .lsl j' t 1 0 es.length ∧ st.H j' = some ⟨t, 1, es⟩ ∧ j' < st.m ∧ j' ≠ j ∧ T = .sl t 0 1 es ∧ ∀ x ∈ es, Plain x
theorem Leaf.frame {st st' : St} {j : Nat} {e T : AV} (h : Leaf st j e T) (k : ∀ i, i < st.m → i ≠ j → isAt e i → st'.H i = st.H i) (hm : st.m ≤ st'.m) : Leaf st' j e T := by
  rcases h with h | ⟨j', t, es, rfl, h1, h2, h3, h4, h5⟩
  · exact .inl h
  · exact .inr ⟨j', t, es, rfl, by rw [k j' h2 h3 ⟨_, _, _, _, rfl⟩]; exact h1, by omega, h3, h4, h5⟩
theorem Leaf.one {st : St} {j : Nat} {e T : AV} (h : Leaf st j e T) : e.one = true := by
  rcases h with ⟨rfl, _⟩ | ⟨j', t, es, rfl, _⟩ <;> rfl
theorem Leaf.resD {st : St} {j d : Nat} {e T : AV} (h : Leaf st j e T) : Go.Proofs.YtbomeeiaeohbpaaFw.resD st (d + 2) e = some T := by
  rcases h with ⟨rfl, rfl⟩ | ⟨j', t, es, rfl, h1, h2, h3, rfl, h5⟩
  · rfl
  · show resOne st (Go.Proofs.YtbomeeiaeohbpaaFw.resD st (d + 1)) (.lsl j' t 1 0 es.length) = _
    simp only [resOne, get_H h1, Option.bind_some, Nat.zero_add, Nat.le_refl, if_true, List.drop_zero, List.take_length]
    rw [mapO_same fun x hx => resD_plain (h5 x hx)]; rfl
theorem AccB.leaf {n1 : Nat} {st : St} {w : AV} {l : List Bool} (h : AccB n1 st w l) {j : Nat} (hj : ¬ isAt w j) : ∃ T, Leaf st j w T ∧ New 1 n1 st.n T ∧ BS T l := by
  obtain ⟨es, h, g⟩ := h
  obtain ⟨f1, f2, f3⟩ := rb_flat g
  rcases h with ⟨rfl, rfl⟩ | ⟨j', t, h, h1, h2, h3⟩
  · exact ⟨.nils, .inl ⟨rfl, rfl⟩, New.nils, ⟨[], .inl ⟨rfl, rfl⟩, g⟩⟩
  · refine ⟨.sl t 0 1 es, .inr ⟨j', t, es, h.1, h.2, h1, fun e => hj ⟨t, 1, 0, es.length, by rw [h.1, e]⟩, rfl, f3⟩, New.sl (NewL.flat f1 f2) h2 h3 (by omega), ⟨es, .inr ⟨_, _, rfl⟩, g⟩⟩
def AccBSS (n0 : Nat) (st : St) (v : AV) (rows : List (List Bool)) : Prop :=
  ∃ j t es Ts, Loc st j t 1 v es ∧ j < st.m ∧ n0 ≤ t ∧ t < st.n ∧ NewL 1 n0 t Ts ∧ All2 (Leaf st j) es Ts ∧ All2 BS Ts rows
theorem AccBSS.lit {n0 : Nat} {st : St} (h : n0 ≤ st.n) : AccBSS n0 (st.new 1 []) (.lsl st.m st.n 1 0 0) [] :=
  ⟨st.m, st.n, [], [], ⟨rfl, new_H _ _ _⟩, Nat.lt_succ_self _, h, Nat.lt_succ_self _, NewL.nil, rfl, rfl⟩
theorem All2.mono {α β : Type} {R R' : α → β → Prop} (h : ∀ a b, R a b → R' a b) : ∀ {l : List α} {r : List β}, All2 R l r → All2 R' l r
  | [], r, k => k
  | a :: l, r, k => by
    simp only [All2] at k ⊢
    obtain ⟨b, r, rfl, k1, k2⟩ := k
    exact ⟨b, r, rfl, h _ _ k1, All2.mono h k2⟩
theorem AccBSS.frame {n0 : Nat} {st st' : St} {v : AV} {rows : List (List Bool)} (h : AccBSS n0 st v rows) (k : ∀ i, i < st.m → st'.H i = st.H i) (hm : st.m ≤ st'.m) (hn : st.n ≤ st'.n) : AccBSS n0 st' v rows := by
  obtain ⟨j, t, es, Ts, h1, h2, h3, h4, h5, h6, h7⟩ := h
  exact ⟨j, t, es, Ts, h1.frame (k j h2), by omega, h3, by omega, h5, h6.mono fun a b hl => hl.frame (fun i hi _ _ => k i hi) hm, h7⟩
theorem AccBSS.lt {n0 : Nat} {st : St} {v : AV} {rows : List (List Bool)} (h : AccBSS n0 st v rows) {q : Nat} (hq : isAt v q) : q < st.m := by
  obtain ⟨j, t, es, Ts, h1, h2, _⟩ := h
  obtain ⟨_, _, _, _, e⟩ := hq
  rw [h1.1] at e; cases e; exact h2
/-- one row more: the row's array was made later than all else -/
theorem Ok.pushRow {β : Type} {n0 n1 : Nat} {st : St} {v w : AV} {row : List Bool} {rows : List (List Bool)} {K : AV × St → Option β} {Q : β → Prop} (h : AccBSS n0 st v rows) (hw : AccB n1 st w row) (hn : n0 ≤ n1) (ht : ∀ q t s off len, v = .lsl q t s off len → t < n1) (hd : ∀ q, isAt v q → ¬ isAt w q) (hn1 : n1 ≤ st.n) (hl : rows.length < 4294967296)
    (k : ∀ v' st', AccBSS n0 st' v' (rows ++ [row]) → st.m ≤ st'.m → st.n ≤ st'.n → (∀ q t s off len, v' = .lsl q t s off len → t < st'.n) → Ok (K (v', st')) Q) :
    Ok (mkLit 1 1 .nils [(0, w)] st fun y s2 => (aApp 1 v y s2).bind K) Q := by
  obtain ⟨j, t, es, Ts, h1, h2, h3, h4, h5, h6, h7⟩ := h
  have hj : isAt v j := ⟨_, _, _, _, h1.1⟩
  obtain ⟨T, l1, l2, l3⟩ := hw.leaf (hd j hj)
  have ho := one_stor l1.one
  rw [lit1 (s := 1) (z := .nils) rfl rfl (by omega) ho.1 ho.2]
  have hy : Arr (st.new 1 [w]) 1 (.lsl st.m st.n 1 0 1) [w] := (Loc.new (st := st) (s := 1) (es := [w])).arr
  obtain ⟨e1, e2⟩ := hy.elems
  have hlen : es.length = rows.length := by rw [h6.length, h7.length]
  have hL : Loc (st.new 1 [w]) j t 1 v es := h1.frame (new_H_ne (Nat.ne_of_lt h2))
  rw [hL.app e1 e2 (by simp; omega)]
  have htt := ht j t 1 0 es.length h1.1
  refine k _ _ ⟨j, st.n + 1, es ++ [w], Ts ++ [T], app_loc rfl, by simp only [put_m, new_m]; omega, by omega, by simp only [new_n]; omega, ?_, ?_, h7.snoc l3⟩ (Nat.le_succ _) (by simp only [new_n]; omega) ?_
  · exact (NewL.snoc (h5.wide (Nat.le_refl _) (Nat.le_refl _) (Nat.le_of_lt htt)) l2 hn hn1).wide (Nat.le_refl _) (Nat.le_refl _) (Nat.le_succ _)
  · refine All2.snoc ?_ ?_
    · exact h6.mono fun a b hl => hl.frame (fun i hi hne _ => by
        show (St.put (st.new 1 [w]) j _).H i = _
        rw [put_H_ne hne, new_H_ne (Nat.ne_of_lt hi)]) (by simp only [put_m, new_m]; omega)
    · exact l1.frame (fun i hi hne _ => by
        show (St.put (st.new 1 [w]) j _).H i = _
        rw [put_H_ne hne, new_H_ne (Nat.ne_of_lt hi)]) (by simp only [put_m, new_m]; omega)
  · intro q t' s off len e; cases e; simp only [new_n]; omega
theorem AccBSS.fin {n0 : Nat} {st : St} {v : AV} {rows : List (List Bool)} (h : AccBSS n0 st v rows) : ∃ T, resTup st v = some T ∧ BSS T rows ∧ New 2 n0 st.n T := by
  obtain ⟨j, t, es, Ts, ⟨e1, h1⟩, h2, h3, h4, h5, h6, h7⟩ := h
  refine ⟨.sl t 0 1 Ts, ?_, ⟨Ts, .inr ⟨_, _, rfl⟩, h7⟩, New.sl' h5 h3 h4 (by omega)⟩
  have hm : ∀ (es Ts : List AV), All2 (Leaf st j) es Ts → mapO (resD st 5) es = some Ts := by
    intro es
    induction es with
    | nil => intro Ts h; simp only [All2] at h; subst h; rfl
    | cons e es ih =>
      intro Ts h
      simp only [All2] at h
      obtain ⟨T, Ts, rfl, h, hs⟩ := h
      simp only [mapO, h.resD (d := 3), Option.bind_some, ih _ hs]
  rw [e1]
  show resOne st (resD st 5) (.lsl j t 1 0 es.length) = _
  simp only [resOne, get_H h1, Option.bind_some, Nat.zero_add, Nat.le_refl, if_true, List.drop_zero, List.take_length, hm es Ts h6]
theorem AccBSS.tag {n0 : Nat} {st : St} {v : AV} {rows : List (List Bool)} (h : AccBSS n0 st v rows) : ∀ q t s off len, v = .lsl q t s off len → t < st.n := by
  obtain ⟨j, t, es, Ts, h1, h2, h3, h4, _⟩ := h
  intro q t' s off len e
  rw [h1.1] at e; cases e; exact h4
def matR (c : Nat → Bool) (k : Nat) : List Bool := (List.range k).map c
theorem matR_succ (c : Nat → Bool) (k : Nat) : matR c (k + 1) = matR c k ++ [c k] := by simp [matR, List.range_succ]
theorem matR_length (c : Nat → Bool) (k : Nat) : (matR c k).length = k := by simp [matR]
def matP (n : Nat) (c : Nat → Nat → Bool) (k : Nat) : List (List Bool) := (List.range k).map fun i => matR (c i) n
theorem matP_succ (n : Nat) (c : Nat → Nat → Bool) (k : Nat) : matP n c (k + 1) = matP n c k ++ [matR (c k) n] := by simp [matP, List.range_succ]
theorem matP_length (n : Nat) (c : Nat → Nat → Bool) (k : Nat) : (matP n c k).length = k := by simp [matP]
/-- the state inside a row -/
structure RowI (n0 : Nat) (st : St) (v : AV) (w : AV) (st1 : St) (row : List Bool) : Prop where
  acc : AccB st.n st1 w row
  n : st.n ≤ st1.n
  m : st.m ≤ st1.m
  at_ : ∀ q, isAt w q → st.m ≤ q
  same : ∀ i, i < st.m → st1.H i = st.H i
theorem RowI.start {n0 : Nat} {st : St} {v : AV} : RowI n0 st v (.lsl st.m st.n 1 0 0) (st.new 1 []) [] :=
  ⟨⟨[], .lit (Nat.le_refl _), rfl⟩, Nat.le_succ _, Nat.le_succ _, fun q hq => by obtain ⟨_, _, _, _, e⟩ := hq; cases e; exact Nat.le_refl _, fun i hi => new_H_ne (Nat.ne_of_lt hi)⟩
theorem RowI.setN {n0 n' : Nat} {st st1 : St} {v w : AV} {row : List Bool} (h : RowI n0 st v w st1 row) (hn : st1.n ≤ n') : RowI n0 st v w (st1.setN n') row := by
  obtain ⟨es, a, b⟩ := h.acc
  exact ⟨⟨es, a.setN hn, b⟩, Nat.le_trans h.n hn, h.m, h.at_, h.same⟩
theorem RowI.push {β : Type} {n0 : Nat} {st st1 : St} {v w : AV} {row : List Bool} {x : Bool} {K : AV × St → Option β} {Q : β → Prop} (h : RowI n0 st v w st1 row) (hl : row.length < 4294967296) (k : ∀ w' st', RowI n0 st v w' st' (row ++ [x]) → Ok (K (w', st')) Q) :
    Ok (mkLit 1 1 (.bool false) [(0, .bool x)] st1 fun y s2 => (aApp 1 w y s2).bind K) Q := by
  refine Ok.pushB h.acc h.n hl fun w' st' h1 h2 h3 h4 h5 => k w' st' ⟨h1, Nat.le_trans h.n h3, Nat.le_trans h.m h2, fun q hq => ?_, fun i hi => ?_⟩
  · rcases h5 q hq with g | g
    · exact h.at_ q g
    · exact Nat.le_trans h.m g
  · rw [h4 i (Nat.lt_of_lt_of_le hi h.m) fun hq => by have := h.at_ i hq; omega]; exact h.same i hi
theorem RowI.close {β : Type} {n0 : Nat} {st st1 : St} {v w : AV} {row : List Bool} {rows : List (List Bool)} {K : AV × St → Option β} {Q : β → Prop} (h : RowI n0 st v w st1 row) (hA : AccBSS n0 st v rows) (hn : n0 ≤ st.n) (hl : rows.length < 4294967296)
    (k : ∀ v' st', AccBSS n0 st' v' (rows ++ [row]) → st.n ≤ st'.n → Ok (K (v', st')) Q) : Ok (mkLit 1 1 .nils [(0, w)] st1 fun y s2 => (aApp 1 v y s2).bind K) Q :=
  Ok.pushRow (hA.frame h.same h.m h.n) h.acc hn hA.tag (fun q hq hw => by have := h.at_ q hw; have := hA.lt hq; omega) h.n hl fun v' st' h1 _ h3 _ => k v' st' h1 (Nat.le_trans h.n h3)

theorem List.findIdx?_le {α : Type} {l : List α} {p : α → Bool} {i : Nat} (h : l.findIdx? p = some i) : i < l.length := by
  rw [List.findIdx?_eq_some_iff_getElem] at h; exact h.1
def fidx {α : Type} (p : α → Bool) (l : List α) : Int := match l.findIdx? p with | some i => (i : Int) | none => -1
theorem fidx_none {α : Type} {p : α → Bool} {l : List α} (h : ∀ (j : Nat) x, l[j]? = some x → p x = false) : fidx p l = -1 := by
  have : l.findIdx? p = none := by
    rw [List.findIdx?_eq_none_iff]
    intro x hx
    obtain ⟨j, hj, rfl⟩ := List.mem_iff_getElem.1 hx
    exact h j _ (List.getElem?_eq_getElem hj)
  simp [fidx, this]
theorem fidx_some {α : Type} {p : α → Bool} {l : List α} {i : Nat} {x : α} (hx : l[i]? = some x) (hp : p x = true) (h : ∀ (j : Nat) y, j < i → l[j]? = some y → p y = false) : fidx p l = i := by
  obtain ⟨hi, e⟩ := List.getElem?_eq_some_iff.1 hx
  have : l.findIdx? p = some i := by
    rw [List.findIdx?_eq_some_iff_getElem]
    exact ⟨hi, by rw [e]; exact hp, fun j hj => by rw [h j _ hj (List.getElem?_eq_getElem (by omega))]; exact Bool.false_ne_true⟩
  simp [fidx, this]
theorem fidx_range {α : Type} (p : α → Bool) (l : List α) : -1 ≤ fidx p l ∧ fidx p l < l.length := by
  unfold fidx
  cases h : l.findIdx? p with
  | none => simp only; omega
  | some i => have := List.findIdx?_le h; simp only; omega
/-- a search: found at i, or not at all -/
theorem find_loop {α ρ : Type} {p : α → Bool} {l : List α} {n0 : Nat} {Q : ρ → Prop} (Lp : Nat → St → Option ρ) (l' : Nat) (hl : l' = l.length)
    (he : ∀ st, n0 ≤ st.n → fidx p l = -1 → Ok (Lp l' st) Q)
    (hs : ∀ (i : Nat) (x : α) (st : St), l[i]? = some x → n0 ≤ st.n → (p x = true → fidx p l = i → True) → (p x = false → ∀ st', n0 ≤ st'.n → Ok (Lp (i + 1) st') Q) → (p x = true → fidx p l = i) → Ok (Lp i st) Q) :
    ∀ st, n0 ≤ st.n → Ok (Lp 0 st) Q := by
  subst hl
  intro st hn
  refine Ok.loop (σ := St) (Lp := Lp) (I := fun i s => n0 ≤ s.n ∧ ∀ (j : Nat) y, j < i → l[j]? = some y → p y = false) l.length (fun s hs => he s hs.1 (fidx_none fun j x hx => hs.2 j x (List.getElem?_eq_some_iff.1 hx).1 hx)) (fun i s hi hI ih => ?_) l.length 0 st (by omega) ⟨hn, fun j y hj => by omega⟩
  have hx := List.getElem?_eq_getElem hi
  refine hs i _ s hx hI.1 (fun _ _ => trivial) (fun hp s' hs' => ih s' ⟨hs', fun j y hj hy => ?_⟩) (fun hp => fidx_some hx hp hI.2)
  by_cases e : j = i
  · subst e; rw [hx] at hy; cases hy; exact hp
  · exact hI.2 j y (by omega) hy

def hasS (l : List ByteArray) (s : ByteArray) : Bool := l.any fun x => decide (x = s)
theorem hasS_fidx (l : List ByteArray) (s : ByteArray) : hasS l s = decide (fidx (fun x => decide (x = s)) l ≠ -1) := by
  rw [Bool.eq_iff_iff, decide_eq_true_iff]
  simp only [hasS, List.any_eq_true, decide_eq_true_iff]
  unfold fidx
  cases hq : l.findIdx? (fun x => decide (x = s)) with
  | none =>
    rw [List.findIdx?_eq_none_iff] at hq
    simp only [ne_eq, not_true_eq_false, iff_false]
    rintro ⟨x, hx, e⟩
    have := hq x hx; simp [e] at this
  | some i =>
    rw [List.findIdx?_eq_some_iff_getElem] at hq
    obtain ⟨h1, h2, _⟩ := hq
    simp only
    refine iff_of_true ⟨l[i], List.getElem_mem h1, by simpa using h2⟩ (by omega)
def nmAdd (o : List ByteArray) (s : ByteArray) : List ByteArray := if s = ⟨#[]⟩ then o else if hasS o s = true then o else o ++ [s]
def nmStep (o : List ByteArray) (f : Fac) : List ByteArray := nmAdd (nmAdd o f.frm) f.to
def namesM (l : List Fac) : List ByteArray := l.foldl nmStep []
theorem nmAdd_length (o : List ByteArray) (s : ByteArray) : o.length ≤ (nmAdd o s).length ∧ (nmAdd o s).length ≤ o.length + 1 := by
  unfold nmAdd; repeat' split
  all_goals simp
theorem names_take (l : List Fac) (i : Nat) (f : Fac) (h : l[i]? = some f) : namesM (l.take (i + 1)) = nmStep (namesM (l.take i)) f := by
  unfold namesM
  rw [List.take_add_one, h]; simp
theorem names_length (l : List Fac) : (namesM l).length ≤ 2 * l.length := by
  have : ∀ (l : List Fac) (o : List ByteArray), (l.foldl nmStep o).length ≤ o.length + 2 * l.length := by
    intro l
    induction l with
    | nil => intro o; simp
    | cons f l ih =>
      intro o
      have h1 := nmAdd_length o f.frm; have h2 := nmAdd_length (nmAdd o f.frm) f.to
      have := ih (nmStep o f)
      simp only [List.foldl_cons, List.length_cons, nmStep] at *; omega
  simpa [namesM] using this l []
def AccS (n0 : Nat) (st : St) (v : AV) (l : List ByteArray) : Prop := ∃ es, Acc n0 st 1 v es ∧ All2 RStr es l
theorem rs_flat {es : List AV} {l : List ByteArray} (h : All2 RStr es l) : depL es = 0 ∧ thBL es = true ∧ ∀ e ∈ es, Plain e := by
  have := flatL (vs := es) fun v hv => by obtain ⟨x, _, rfl⟩ := h.mem v hv; exact ⟨by simp [dep], rfl⟩
  exact ⟨this.1, this.2, fun e he => by obtain ⟨x, _, rfl⟩ := h.mem e he; exact plain_str _⟩
theorem AccS.fin {n0 : Nat} {st : St} {v : AV} {l : List ByteArray} (h : AccS n0 st v l) : ∃ T, resTup st v = some T ∧ res st v = some T ∧ SS T l ∧ New 1 n0 st.n T := by
  obtain ⟨es, h, k⟩ := h
  obtain ⟨f1, f2, f3⟩ := rs_flat k
  obtain ⟨T, h1, h2, h3, h4, _⟩ := h.fin (d := 0) f3
  exact ⟨T, h1, h2, ⟨es, h3, k⟩, h4 (by omega) f1 f2⟩
theorem AccS.len {n0 : Nat} {st : St} {v : AV} {l : List ByteArray} (h : AccS n0 st v l) : aLen v = some (.int .i64 l.length) := by
  obtain ⟨es, h, k⟩ := h; rw [h.arr.len, k.length]
theorem AccS.frame {n0 : Nat} {st st' : St} {v : AV} {l : List ByteArray} (h : AccS n0 st v l) (k : ∀ i, i < st.m → st'.H i = st.H i) (hm : st.m ≤ st'.m) (hn : st.n ≤ st'.n) : AccS n0 st' v l := by
  obtain ⟨es, h, g⟩ := h; exact ⟨es, h.frame k hm hn, g⟩
theorem AccS.setN {n0 n' : Nat} {st : St} {v : AV} {l : List ByteArray} (h : AccS n0 st v l) (hn : st.n ≤ n') : AccS n0 (st.setN n') v l := h.frame (fun _ _ => rfl) (Nat.le_refl _) hn
theorem AccS.new {n0 k : Nat} {st : St} {v : AV} {l : List ByteArray} {xs : List AV} (h : AccS n0 st v l) : AccS n0 (st.new k xs) v l := h.frame (fun _ hi => new_H_ne (Nat.ne_of_lt hi)) (Nat.le_succ _) (Nat.le_succ _)
theorem AccS.lt {n0 : Nat} {st : St} {v : AV} {l : List ByteArray} (h : AccS n0 st v l) {q : Nat} (hq : isAt v q) : q < st.m := by obtain ⟨es, h, _⟩ := h; exact h.lt hq
theorem Ok.pushS {β : Type} {n0 : Nat} {st : St} {v : AV} {x : ByteArray} {l : List ByteArray} {K : AV × St → Option β} {Q : β → Prop} (h : AccS n0 st v l) (hn : n0 ≤ st.n) (hl : l.length < 4294967296)
    (k : ∀ v' st', AccS n0 st' v' (l ++ [x]) → st.m ≤ st'.m → st.n ≤ st'.n → (∀ i, i < st.m → ¬ isAt v i → st'.H i = st.H i) → (∀ q, isAt v' q → isAt v q ∨ st.m ≤ q) → Ok (K (v', st')) Q) :
    Ok (mkLit 1 1 (.str ⟨#[]⟩) [(0, .str x)] st fun y s2 => (aApp 1 v y s2).bind K) Q := by
  obtain ⟨es, h, g⟩ := h
  exact Ok.push h hn rfl rfl (by omega) rfl rfl (by rw [g.length]; omega) fun v' st' h1 h2 h3 h4 h5 => k v' st' ⟨_, h1, g.snoc rfl⟩ h2 h3 h4 h5
theorem lit0_s {β : Type} {st : St} {K : AV → St → Option β} : mkLit 0 1 (.str ⟨#[]⟩) [] st K = K (.lsl st.m st.n 1 0 0) (st.new 1 []) := lit0 (s := 1) rfl rfl (by omega)
theorem AccS.lit {n0 : Nat} {st : St} (h : n0 ≤ st.n) : AccS n0 (st.new 1 []) (.lsl st.m st.n 1 0 0) [] := ⟨[], .lit h, rfl⟩

def facAt (l : List Fac) (i : Nat) : Bool := match l[i]? with
  | some f => facOk f && (decide (i = 0) || match l[i - 1]? with | some g => decide (g.id < f.id) | none => false)
  | none => false
def flistM (l : List Fac) : Bool := decide (l.length ≤ 40) && allF (facAt l) 0 l.length && decide ((namesM l).length < 10)
def idsM (l : List Fac) (kind : Int) : List Int := (l.filter fun f => decide (f.kind = kind)).map Fac.id
theorem ids_take (l : List Fac) (kind : Int) (i : Nat) (f : Fac) (h : l[i]? = some f) : idsM (l.take (i + 1)) kind = idsM (l.take i) kind ++ if f.kind = kind then [f.id] else [] := by
  unfold idsM
  rw [List.take_add_one, h]
  simp only [Option.toList, List.filter_append, List.map_append]
  congr 1
  by_cases hk : f.kind = kind <;> simp [hk]
theorem ids_length (l : List Fac) (kind : Int) : (idsM l kind).length ≤ l.length := by
  unfold idsM; rw [List.length_map]; exact List.length_filter_le _ _

def rotN : Nat → Int × Int → Int × Int
  | 0, p => p
  | n + 1, p => rotN n (-p.2, p.1)
def rotM (x y t : Int) : Int × Int := if poseOk ⟨t, x, y⟩ = true then rotN t.toNat (x, y) else (0, 0)
theorem rotN_bound : ∀ (n : Nat) (p : Int × Int), -1000000 ≤ p.1 ∧ p.1 ≤ 1000000 ∧ -1000000 ≤ p.2 ∧ p.2 ≤ 1000000 → -1000000 ≤ (rotN n p).1 ∧ (rotN n p).1 ≤ 1000000 ∧ -1000000 ≤ (rotN n p).2 ∧ (rotN n p).2 ≤ 1000000
  | 0, p, h => h
  | n + 1, p, h => rotN_bound n _ (by simp only; omega)
theorem rotM_bound (x y t : Int) : -1000000 ≤ (rotM x y t).1 ∧ (rotM x y t).1 ≤ 1000000 ∧ -1000000 ≤ (rotM x y t).2 ∧ (rotM x y t).2 ≤ 1000000 := by
  unfold rotM
  split
  · rename_i h
    simp only [poseOk, decide_eq_true_iff] at h
    exact rotN_bound _ _ (by simp only; omega)
  · simp
def pose0 : Pos := ⟨0, 0, 0⟩
def compM (p q : Pos) : Pos × Bool :=
  if poseOk p = true ∧ poseOk q = true then
    (if poseOk ⟨(p.t + q.t).tmod 4, p.x + (rotM q.x q.y p.t).1, p.y + (rotM q.x q.y p.t).2⟩ = true then (⟨(p.t + q.t).tmod 4, p.x + (rotM q.x q.y p.t).1, p.y + (rotM q.x q.y p.t).2⟩, true) else (pose0, false))
  else (pose0, false)
def invM (p : Pos) : Pos := if poseOk p = true then ⟨(4 - p.t).tmod 4, (rotM (-p.x) (-p.y) ((4 - p.t).tmod 4)).1, (rotM (-p.x) (-p.y) ((4 - p.t).tmod 4)).2⟩ else pose0

def ixN (names : List ByteArray) (s : ByteArray) : Nat := (fidx (fun x => decide (x = s)) names).toNat
def kb (kn : List Bool) (i : Nat) : Bool := (kn[i]?).getD false
def pa (l : List Pos) (i : Nat) : Pos := (l[i]?).getD pose0
def stepAt (names : List ByteArray) (ps : List Pos) (kn : List Bool) (f : Fac) : Option (Nat × Pos) :=
  if f.kind = 1 then (if kb kn (ixN names f.to) = true then none else some (ixN names f.to, f.p))
  else if f.kind = 2 then
    (if kb kn (ixN names f.frm) = true then
      (if kb kn (ixN names f.to) = true then none
       else if (compM (pa ps (ixN names f.frm)) f.p).2 = true then some (ixN names f.to, (compM (pa ps (ixN names f.frm)) f.p).1) else none)
     else if kb kn (ixN names f.to) = true then
      (if (compM (pa ps (ixN names f.to)) (invM f.p)).2 = true then some (ixN names f.frm, (compM (pa ps (ixN names f.to)) (invM f.p)).1) else none)
     else none)
  else none
def reckM (names : List ByteArray) (l : List Fac) (ps : List Pos) (kn : List Bool) : Option (Nat × Pos) := l.findSome? (stepAt names ps kn)
def deadF (names : List ByteArray) (l : List Fac) : Nat → List Pos → List Bool → List Pos × List Bool
  | 0, ps, kn => (ps, kn)
  | k + 1, ps, kn => match reckM names l ps kn with
    | none => (ps, kn)
    | some (i, q) => deadF names l k (ps.set i q) (kn.set i true)
def deadM (l : List Fac) : List Pos × List Bool := if flistM l = true then deadF (namesM l) l (namesM l).length (List.replicate (namesM l).length pose0) (List.replicate (namesM l).length false) else ([], [])
def knownM (l : List Fac) (s : ByteArray) : Pos × Bool :=
  let i := fidx (fun x => decide (x = s)) (namesM l)
  if i < 0 ∨ (deadM l).1.length ≤ i then (pose0, false)
  else if kb (deadM l).2 i.toNat = true then (pa (deadM l).1 i.toNat, true) else (pose0, false)

theorem hasS_mono {o : List ByteArray} {s x : ByteArray} (h : hasS o s = true) : hasS (nmAdd o x) s = true := by
  unfold nmAdd; split
  · exact h
  · split
    · exact h
    · simp only [hasS, List.any_append, Bool.or_eq_true]; exact .inl h
theorem hasS_add {o : List ByteArray} {s : ByteArray} (h : ¬ s = ⟨#[]⟩) : hasS (nmAdd o s) s = true := by
  unfold nmAdd; rw [if_neg h]; split
  · assumption
  · simp [hasS]
theorem names_has : ∀ (l : List Fac) (o : List ByteArray) (s : ByteArray), (hasS o s = true ∨ ∃ f ∈ l, (f.frm = s ∨ f.to = s) ∧ ¬ s = ⟨#[]⟩) → hasS (l.foldl nmStep o) s = true
  | [], o, s, h => by
    rcases h with h | ⟨f, hf, _⟩
    · exact h
    · simp at hf
  | g :: l, o, s, h => by
    simp only [List.foldl_cons]
    apply names_has l
    rcases h with h | ⟨f, hf, h1, h2⟩
    · exact .inl (hasS_mono (hasS_mono h))
    · rcases List.mem_cons.1 hf with rfl | hf
      · rcases h1 with rfl | rfl
        · exact .inl (hasS_mono (hasS_add h2))
        · exact .inl (hasS_add h2)
      · exact .inr ⟨f, hf, h1, h2⟩
theorem ixN_of {names : List ByteArray} {s : ByteArray} (h : hasS names s = true) : fidx (fun x => decide (x = s)) names = (ixN names s : Int) ∧ ixN names s < names.length := by
  rw [hasS_fidx, decide_eq_true_iff] at h
  have := fidx_range (fun x => decide (x = s)) names
  unfold ixN; omega
theorem poseName_ne {b : ByteArray} (h : poseNameM b = true) : ¬ b = ⟨#[]⟩ := by
  rintro rfl
  simp [poseNameM, nameM] at h
  have e : (⟨#[]⟩ : ByteArray).size = 0 := rfl
  omega
theorem landName_ne {b : ByteArray} (h : landNameM b = true) : ¬ b = ⟨#[]⟩ := by
  rintro rfl
  simp [landNameM, nameM] at h
  have e : (⟨#[]⟩ : ByteArray).size = 0 := rfl
  omega
theorem flist_ok {l : List Fac} (h : flistM l = true) {f : Fac} (hf : f ∈ l) : facOk f = true := by
  simp only [flistM, Bool.and_eq_true] at h
  obtain ⟨i, hi, rfl⟩ := List.mem_iff_getElem.1 hf
  have := allF_iff.1 h.1.2 i (Nat.zero_le _) (by omega)
  simp only [facAt, List.getElem?_eq_getElem hi, Bool.and_eq_true] at this
  exact this.1
theorem flist_to {l : List Fac} (h : flistM l = true) {f : Fac} (hf : f ∈ l) : hasS (namesM l) f.to = true := by
  refine names_has l [] f.to (.inr ⟨f, hf, .inr rfl, ?_⟩)
  have := flist_ok h hf
  simp only [facOk, Bool.and_eq_true] at this
  have h3 := this.2
  split at h3
  · simp only [Bool.and_eq_true] at h3; exact poseName_ne h3.2
  · split at h3
    · simp only [Bool.and_eq_true] at h3; exact poseName_ne h3.1.2
    · split at h3
      · simp only [Bool.and_eq_true] at h3; exact landName_ne h3.1.2
      · exact absurd h3 Bool.false_ne_true
theorem flist_frm {l : List Fac} (h : flistM l = true) {f : Fac} (hf : f ∈ l) (hk : ¬ f.kind = 1) : hasS (namesM l) f.frm = true := by
  refine names_has l [] f.frm (.inr ⟨f, hf, .inl rfl, ?_⟩)
  have := flist_ok h hf
  simp only [facOk, Bool.and_eq_true] at this
  have h3 := this.2
  rw [if_neg hk] at h3
  split at h3
  · simp only [Bool.and_eq_true] at h3; exact poseName_ne h3.1.1
  · split at h3
    · simp only [Bool.and_eq_true] at h3; exact poseName_ne h3.1.1
    · exact absurd h3 Bool.false_ne_true

theorem stepAt_lt {names : List ByteArray} {l : List Fac} {ps : List Pos} {kn : List Bool} (hn : names = namesM l) (h : flistM l = true) {i : Nat} {q : Pos} (hr : reckM names l ps kn = some (i, q)) : i < names.length ∧ kb kn i = false := by
  subst hn
  obtain ⟨f, hf, e⟩ := List.exists_of_findSome?_eq_some hr
  have ht := (ixN_of (flist_to h hf)).2
  have key : ∀ b : Bool, ¬ b = true → b = false := fun b hb => by cases b <;> simp_all
  unfold stepAt at e
  split at e
  · split at e
    · cases e
    · cases e; exact ⟨ht, key _ (by assumption)⟩
  · rename_i hk
    have hfr := (ixN_of (flist_frm h hf hk)).2
    split at e
    · split at e
      · split at e
        · cases e
        · split at e
          · cases e; exact ⟨ht, key _ (by assumption)⟩
          · cases e
      · split at e
        · split at e
          · cases e; exact ⟨hfr, key _ (by assumption)⟩
          · cases e
        · cases e
    · cases e

/-- the two local arrays of a reckoning -/
def DR (st : St) (va vk : AV) (ps : List Pos) (kn : List Bool) : Prop := ∃ j1 t1 j2 t2, Loc st j1 t1 3 va (ps.map poseV) ∧ Loc st j2 t2 1 vk (kn.map AV.bool) ∧ j1 < st.m ∧ j2 < st.m ∧ j1 ≠ j2
theorem DR.frame {st st' : St} {va vk : AV} {ps : List Pos} {kn : List Bool} (h : DR st va vk ps kn) (k : ∀ i, i < st.m → st'.H i = st.H i) (hm : st.m ≤ st'.m) : DR st' va vk ps kn := by
  obtain ⟨j1, t1, j2, t2, h1, h2, h3, h4, h5⟩ := h
  exact ⟨j1, t1, j2, t2, h1.frame (k _ h3), h2.frame (k _ h4), by omega, by omega, h5⟩
theorem DR.new {st : St} {va vk : AV} {ps : List Pos} {kn : List Bool} {s : Nat} {es : List AV} (h : DR st va vk ps kn) : DR (st.new s es) va vk ps kn := h.frame (fun i hi => new_H_ne (Nat.ne_of_lt hi)) (Nat.le_succ _)
theorem DR.setN {st : St} {va vk : AV} {ps : List Pos} {kn : List Bool} {n : Nat} (h : DR st va vk ps kn) : DR (st.setN n) va vk ps kn := h.frame (fun _ _ => rfl) (Nat.le_refl _)
theorem DR.at {st : St} {va vk : AV} {ps : List Pos} {kn : List Bool} (h : DR st va vk ps kn) {i : Nat} (hi : i < ps.length) (kd : IntKind) : ∃ p, aIaddr 3 va (.int kd (i : Int)) = some p ∧ aLoad true 3 st p = some (poseV (pa ps i)) := by
  obtain ⟨j1, t1, j2, t2, h1, h2, h3, h4, h5⟩ := h
  obtain ⟨p, q1, q2⟩ := h1.arr.at (i := i) (by simpa using hi) kd
  refine ⟨p, q1, ?_⟩
  rw [q2]
  simp [pa, List.getElem?_eq_getElem hi, poseV, ldCells, AV.cells]
theorem DR.kn {st : St} {va vk : AV} {ps : List Pos} {kn : List Bool} (h : DR st va vk ps kn) {i : Nat} (hi : i < kn.length) (kd : IntKind) : ∃ p, aIaddr 1 vk (.int kd (i : Int)) = some p ∧ aLoad false 1 st p = some (.bool (kb kn i)) := by
  obtain ⟨j1, t1, j2, t2, h1, h2, h3, h4, h5⟩ := h
  obtain ⟨p, q1, q2⟩ := h2.arr.at (i := i) (by simpa using hi) kd
  refine ⟨p, q1, ?_⟩
  rw [q2]
  simp [kb, List.getElem?_eq_getElem hi, ldCells, AV.cells]
theorem DR.store {st : St} {va vk : AV} {ps : List Pos} {kn : List Bool} (h : DR st va vk ps kn) {i : Nat} (hi : i < ps.length) (hk : i < kn.length) (q : Pos) (kd : IntKind) : ∃ p1 p2 S1 S2, aIaddr 3 va (.int kd (i : Int)) = some p1 ∧ aStore 3 p1 (poseV q) st = some S1 ∧ aIaddr 1 vk (.int kd (i : Int)) = some p2 ∧ aStore 1 p2 (.bool true) S1 = some S2 ∧ DR S2 va vk (ps.set i q) (kn.set i true) ∧ S2.m = st.m ∧ S2.n = st.n := by
  obtain ⟨j1, t1, j2, t2, ⟨e1, h1⟩, ⟨e2, h2⟩, h3, h4, h5⟩ := h
  subst e1; subst e2
  have a1 : aIaddr 3 (.lsl j1 t1 3 0 (ps.map poseV).length) (.int kd (i : Int)) = some (.ptr j1 t1 i 0) := iaddr_lsl (by simpa using hi)
  have a2 : aIaddr 1 (.lsl j2 t2 1 0 (kn.map AV.bool).length) (.int kd (i : Int)) = some (.ptr j2 t2 i 0) := iaddr_lsl (by simpa using hk)
  have s1 : aStore 3 (.ptr j1 t1 i 0) (poseV q) st = some (st.put j1 ⟨t1, 3, (ps.set i q).map poseV⟩) := by
    have hc : (poseV q).stor = true ∧ (poseV q).cells.length = 3 := ⟨rfl, rfl⟩
    simp only [aStore, hc, and_self, if_true]
    have hx : (ps.map poseV)[i]? = some (poseV ps[i]) := by rw [List.getElem?_map, List.getElem?_eq_getElem hi]; rfl
    simp only [get_H h1, Option.bind_some, hx, poseV, AV.cells, setElem, List.length_cons, List.length_nil, Nat.reduceAdd, Nat.le_refl, if_true, splice, List.take_zero, List.nil_append, List.cons_append, Nat.zero_add, List.drop_succ_cons, List.drop_nil, List.map_set]
  have s2 : aStore 1 (.ptr j2 t2 i 0) (.bool true) (st.put j1 ⟨t1, 3, (ps.set i q).map poseV⟩) = some ((st.put j1 ⟨t1, 3, (ps.set i q).map poseV⟩).put j2 ⟨t2, 1, (kn.set i true).map AV.bool⟩) := by
    have hH : (st.put j1 ⟨t1, 3, (ps.set i q).map poseV⟩).H j2 = some ⟨t2, 1, kn.map AV.bool⟩ := by rw [put_H_ne (Ne.symm h5)]; exact h2
    rw [store_one hH (by simpa using hk) (by simp [AV.one]) rfl]
    simp [List.map_set]
  refine ⟨_, _, _, _, a1, s1, a2, s2, ⟨j1, t1, j2, t2, ⟨by simp, ?_⟩, ⟨by simp, put_H _ _ _⟩, h3, h4, h5⟩, rfl, rfl⟩
  rw [put_H_ne h5]; exact put_H _ _ _
theorem loc_store {S : St} {va vk : AV} {ps : List Pos} {kn : List Bool} {j1 t1 j2 t2 : Nat} (H1 : Loc S j1 t1 3 va (ps.map poseV)) (H2 : Loc S j2 t2 1 vk (kn.map AV.bool)) (h3 : j1 < S.m) (h4 : j2 < S.m) (h5 : j1 ≠ j2) {i : Nat} (hi : i < ps.length) (hk : i < kn.length) (q : Pos) :
    ∃ S1 S2, aStore 3 (.ptr j1 t1 i 0) (poseV q) S = some S1 ∧ aStore 1 (.ptr j2 t2 i 0) (.bool true) S1 = some S2 ∧ DR S2 va vk (ps.set i q) (kn.set i true) ∧ S2.m = S.m ∧ S2.n = S.n := by
  obtain ⟨e1, h1⟩ := H1
  obtain ⟨e2, h2⟩ := H2
  have a1 : aIaddr 3 va (.int .i64 (i : Int)) = some (.ptr j1 t1 i 0) := by rw [e1]; exact iaddr_lsl (by simpa using hi)
  have a2 : aIaddr 1 vk (.int .i64 (i : Int)) = some (.ptr j2 t2 i 0) := by rw [e2]; exact iaddr_lsl (by simpa using hk)
  obtain ⟨p1, p2, S1, S2, b1, b2, b3, b4, b5, b6, b7⟩ := DR.store ⟨j1, t1, j2, t2, ⟨e1, h1⟩, ⟨e2, h2⟩, h3, h4, h5⟩ hi hk q .i64
  rw [a1] at b1; rw [a2] at b3
  cases b1; cases b3
  exact ⟨S1, S2, b2, b4, b5, b6, b7⟩
theorem pose_cells (p : Pos) : (poseV p).cells = [.int .i64 p.t, .int .i64 p.x, .int .i64 p.y] := rfl
theorem findSome_take {α β : Type} {f : α → Option β} {l : List α} {i : Nat} {x : α} {y : β} (hx : l[i]? = some x) (hy : f x = some y) (h : ∀ (j : Nat) (z : α), j < i → l[j]? = some z → f z = none) : l.findSome? f = some y := by
  induction l generalizing i with
  | nil => simp at hx
  | cons a l ih =>
    cases i with
    | zero => simp at hx; subst hx; simp [List.findSome?, hy]
    | succ i =>
      have h0 := h 0 a (by omega) rfl
      simp only [List.findSome?, h0]
      exact ih (by simpa using hx) fun j z hj hz => h (j + 1) z (by omega) (by simpa using hz)
theorem findSome_no {α β : Type} {f : α → Option β} {l : List α} (h : ∀ (j : Nat) (z : α), l[j]? = some z → f z = none) : l.findSome? f = none := by
  rw [List.findSome?_eq_none_iff]
  intro x hx
  obtain ⟨j, hj, rfl⟩ := List.mem_iff_getElem.1 hx
  exact h j _ (List.getElem?_eq_getElem hj)

theorem count_set {kn : List Bool} {i : Nat} (hi : i < kn.length) (h : kb kn i = false) : (kn.set i true).count false + 1 = kn.count false := by
  have e : kn[i] = false := by simpa [kb, List.getElem?_eq_getElem hi] using h
  have := List.count_set (l := kn) (i := i) (a := true) (b := false) hi
  rw [e] at this
  have h1 : 0 < kn.count false := List.count_pos_iff.2 (by rw [← e]; exact List.getElem_mem hi)
  simp at this; omega
theorem deadF_more (names : List ByteArray) (l : List Fac) (hf : flistM l = true) (hn : names = namesM l) : ∀ (k k' : Nat) (ps : List Pos) (kn : List Bool), kn.length = names.length → kn.count false ≤ k → kn.count false ≤ k' → deadF names l k ps kn = deadF names l k' ps kn
  | 0, 0, ps, kn, _, _, _ => rfl
  | 0, k' + 1, ps, kn, hl, h, h' => by
    have hr : reckM names l ps kn = none := by
      cases hr : reckM names l ps kn with
      | none => rfl
      | some x =>
        obtain ⟨h1, h2⟩ := stepAt_lt hn hf (i := x.1) (q := x.2) hr
        have := count_set (kn := kn) (i := x.1) (by omega) h2; omega
    simp [deadF, hr]
  | k + 1, 0, ps, kn, hl, h, h' => (deadF_more names l hf hn 0 (k + 1) ps kn hl h' h).symm
  | k + 1, k' + 1, ps, kn, hl, h, h' => by
    simp only [deadF]
    cases hr : reckM names l ps kn with
    | none => rfl
    | some x =>
      obtain ⟨h1, h2⟩ := stepAt_lt hn hf (i := x.1) (q := x.2) hr
      have := count_set (kn := kn) (i := x.1) (by omega) h2
      exact deadF_more names l hf hn k k' _ _ (by simpa using hl) (by omega) (by omega)
theorem deadF_len (names : List ByteArray) (l : List Fac) : ∀ (k : Nat) (ps : List Pos) (kn : List Bool), (deadF names l k ps kn).1.length = ps.length ∧ (deadF names l k ps kn).2.length = kn.length
  | 0, ps, kn => ⟨rfl, rfl⟩
  | k + 1, ps, kn => by
    simp only [deadF]
    cases reckM names l ps kn with
    | none => exact ⟨rfl, rfl⟩
    | some x => have := deadF_len names l k (ps.set x.1 x.2) (kn.set x.1 true); simpa using this
theorem deadM_len (l : List Fac) : (deadM l).1.length = (deadM l).2.length ∧ (deadM l).1.length ≤ (namesM l).length := by
  unfold deadM
  split
  · have := deadF_len (namesM l) l (namesM l).length (List.replicate (namesM l).length pose0) (List.replicate (namesM l).length false)
    simp at this; omega
  · simp
def PosS (v : AV) (l : List Pos) : Prop := SlOf 3 (fun e p => e = poseV p) v l
def BoolSl (v : AV) (l : List Bool) : Prop := SlOf 1 (fun e b => e = .bool b) v l
theorem All2.map {α : Type} (f : α → AV) : ∀ l : List α, All2 (fun e x => e = f x) (l.map f) l
  | [] => rfl
  | x :: l => by simp only [List.map_cons, All2]; exact ⟨_, _, rfl, rfl, All2.map f l⟩
theorem DR.fin {st : St} {va vk : AV} {ps : List Pos} {kn : List Bool} (h : DR st va vk ps kn) : ∃ T U, resTup st (.tup [va, vk]) = some (.tup [T, U]) ∧ PosS T ps ∧ BoolSl U kn ∧ res st va = some T ∧ res st vk = some U := by
  obtain ⟨j1, t1, j2, t2, h1, h2, _⟩ := h
  have r1 := h1.res fun e he => by obtain ⟨x, _, rfl⟩ := List.mem_map.1 he; exact pose_plain x
  have r2 := h2.res fun e he => by obtain ⟨x, _, rfl⟩ := List.mem_map.1 he; exact plain_bool x
  exact ⟨_, _, by simp only [resTup, mapO, r1, r2, Option.bind_some], ⟨_, .inr ⟨_, _, rfl⟩, All2.map _ _⟩, ⟨_, .inr ⟨_, _, rfl⟩, All2.map _ _⟩, r1, r2⟩
theorem PosS.plain {v : AV} {l : List Pos} (h : PosS v l) : Plain v := SlOf.plain h fun _ _ hr => by cases hr; rfl
theorem BoolSl.plain {v : AV} {l : List Bool} (h : BoolSl v l) : Plain v := SlOf.plain h fun _ _ hr => by cases hr; rfl
theorem PosS.at {st : St} {v : AV} {l : List Pos} (h : PosS v l) {i : Nat} (hi : i < l.length) (kd : IntKind) : ∃ p, aIaddr 3 v (.int kd (i : Int)) = some (.eptr p) ∧ aLoad true 3 st (.eptr p) = some (poseV (pa l i)) := by
  obtain ⟨e, rfl, h1⟩ := SlOf.idx h (List.getElem?_eq_getElem hi)
  refine ⟨_, h1 kd, ?_⟩
  simp [pa, List.getElem?_eq_getElem hi, aLoad, poseV, ldCells, AV.cells]
theorem BoolSl.at {st : St} {v : AV} {l : List Bool} (h : BoolSl v l) {i : Nat} (hi : i < l.length) (kd : IntKind) : ∃ p, aIaddr 1 v (.int kd (i : Int)) = some (.eptr p) ∧ aLoad false 1 st (.eptr p) = some (.bool (kb l i)) := by
  obtain ⟨e, rfl, h1⟩ := SlOf.idx h (List.getElem?_eq_getElem hi)
  refine ⟨_, h1 kd, ?_⟩
  simp [kb, List.getElem?_eq_getElem hi, aLoad, ldCells, AV.cells]
theorem PosS.atE {v : AV} {l : List Pos} (h : PosS v l) {i : Nat} (hi : i < l.length) (kd : IntKind) : aIaddr 3 v (.int kd (i : Int)) = some (.eptr [.int .i64 (pa l i).t, .int .i64 (pa l i).x, .int .i64 (pa l i).y]) := by
  obtain ⟨e, rfl, h1⟩ := SlOf.idx h (List.getElem?_eq_getElem hi)
  rw [h1 kd]; simp [pa, List.getElem?_eq_getElem hi, poseV, AV.cells]
theorem BoolSl.atE {v : AV} {l : List Bool} (h : BoolSl v l) {i : Nat} (hi : i < l.length) (kd : IntKind) : aIaddr 1 v (.int kd (i : Int)) = some (.eptr [.bool (kb l i)]) := by
  obtain ⟨e, rfl, h1⟩ := SlOf.idx h (List.getElem?_eq_getElem hi)
  rw [h1 kd]; simp [kb, List.getElem?_eq_getElem hi, AV.cells]
theorem cell3 {S : St} {j t : Nat} {p : Pos} (h : S.H j = some ⟨t, 3, [poseV p]⟩) (q : Pos) : aStore 3 (.ptr j t 0 0) (poseV q) S = some (S.put j ⟨t, 3, [poseV q]⟩) ∧ aLoad true 3 (S.put j ⟨t, 3, [poseV q]⟩) (.ptr j t 0 0) = some (poseV q) := by
  have hc : (poseV q).stor = true ∧ (poseV q).cells.length = 3 := ⟨rfl, rfl⟩
  refine ⟨?_, ?_⟩
  · simp only [aStore, hc, and_self, if_true, get_H h, Option.bind_some, List.getElem?_cons_zero]
    simp only [poseV, AV.cells, setElem, List.length_cons, List.length_nil, Nat.reduceAdd, Nat.le_refl, if_true, splice, List.take_zero, List.nil_append, List.cons_append, Nat.zero_add, List.drop_succ_cons, List.drop_nil, List.set_cons_zero]
    rfl
  · simp [aLoad, get_H (put_H _ _ _), poseV, AV.cells, ldCells]

def fac0 : Fac := ⟨0, 0, ⟨#[]⟩, ⟨#[]⟩, pose0, 0⟩
def isLoop (id : Int) (f : Fac) : Bool := decide (f.id = id) && decide (f.kind = 4)
def l21M (l : List Fac) (id : Int) : Fac × Bool := match l.find? (isLoop id) with | some f => (f, true) | none => (fac0, false)
def loopM (l : List Fac) (id : Int) : Fac × Bool :=
  if flistM l = true ∧ (l21M l id).2 = true ∧ (knownM l (l21M l id).1.frm).2 = true ∧ (knownM l (l21M l id).1.to).2 = true then ((l21M l id).1, true) else (fac0, false)
def chainM : Pos → List Pos → Pos × Bool
  | p, [] => (p, true)
  | p, q :: l => if (compM p q).2 = true then chainM (compM p q).1 l else (pose0, false)
def errM (l : List Fac) (i j : Int) : Pos × Bool :=
  if (loopM l i).2 = true ∧ (loopM l j).2 = true then
    let f := (loopM l i).1
    let g := (loopM l j).1
    let there := compM (invM (knownM l f.to).1) (knownM l g.to).1
    let back := compM (invM (knownM l g.frm).1) (knownM l f.frm).1
    if there.2 = true ∧ back.2 = true then chainM pose0 [f.p, there.1, invM g.p, back.1] else (pose0, false)
  else (pose0, false)
def offM (l : List Fac) (i : Int) : Pos × Bool :=
  if (loopM l i).2 = true then
    let f := (loopM l i).1
    let x := compM (invM (knownM l f.frm).1) (knownM l f.to).1
    let y := compM (invM f.p) x.1
    if x.2 = true ∧ y.2 = true then (y.1, true) else (pose0, false)
  else (pose0, false)
theorem compM_bad {p q : Pos} (h : (compM p q).2 = false) : (compM p q).1 = pose0 := by
  unfold compM at h ⊢
  split at h
  · rename_i h1; rw [if_pos h1]
    split at h
    · cases h
    · rename_i h2; rw [if_neg h2]
  · rename_i h1; rw [if_neg h1]
def absM (x : Int) : Int := if x < 0 then 0 - x else x
def distM (l : List Fac) (i j : Int) : Int := if (errM l i j).2 = true ∧ (errM l i j).1.t = 0 then absM (errM l i j).1.x + absM (errM l i j).1.y else -1
def consM (l : List Fac) (i j limit : Int) : Bool := decide (0 ≤ distM l i j ∧ distM l i j ≤ limit)
theorem compM_bound (p q : Pos) : poseOk (compM p q).1 = true := by
  unfold compM; repeat' split
  all_goals first | assumption | rfl
theorem chainM_bound : ∀ (l : List Pos) (p : Pos), poseOk p = true → poseOk (chainM p l).1 = true
  | [], p, h => h
  | q :: l, p, h => by
    unfold chainM; split
    · exact chainM_bound l _ (compM_bound p q)
    · rfl
theorem errM_bound (l : List Fac) (i j : Int) : poseOk (errM l i j).1 = true := by
  unfold errM; split
  · simp only; split
    · exact chainM_bound _ _ rfl
    · rfl
  · rfl
theorem distM_bound (l : List Fac) (i j : Int) : -1 ≤ distM l i j ∧ distM l i j ≤ 2000000 := by
  have := errM_bound l i j
  simp only [poseOk, decide_eq_true_iff] at this
  unfold distM absM; repeat' split
  all_goals omega
/-- in a list of factors the ids go up -/
theorem flist_id {l : List Fac} (h : flistM l = true) : ∀ (d i : Nat) (f g : Fac), l[i]? = some f → l[i + d + 1]? = some g → f.id < g.id := by
  have step : ∀ (i : Nat) (f g : Fac), l[i]? = some f → l[i + 1]? = some g → f.id < g.id := by
    intro i f g hf hg
    simp only [flistM, Bool.and_eq_true] at h
    have hi := (List.getElem?_eq_some_iff.1 hg).1
    have := allF_iff.1 h.1.2 (i + 1) (Nat.zero_le _) (by omega)
    simp only [facAt, hg, Nat.add_sub_cancel, hf, Bool.and_eq_true, Bool.or_eq_true, decide_eq_true_iff] at this
    exact this.2.resolve_left (by omega)
  intro d
  induction d with
  | zero => exact step
  | succ d ih =>
    intro i f g hf hg
    have hi := (List.getElem?_eq_some_iff.1 hg).1
    have hm : l[i + d + 1]? = some (l[i + d + 1]'(by omega)) := List.getElem?_eq_getElem (by omega)
    have h1 := ih i f _ hf hm
    have h2 := step (i + d + 1) _ g hm hg
    omega
theorem l21_fidx {l : List Fac} (h : flistM l = true) (id : Int) : l21M l id = if fidx (fun x => decide (x.id = id)) l < 0 then (fac0, false) else match l[(fidx (fun x => decide (x.id = id)) l).toNat]? with
    | some f => if f.kind = 4 then (f, true) else (fac0, false)
    | none => (fac0, false) := by
  unfold fidx l21M
  cases hq : l.findIdx? (fun x => decide (x.id = id)) with
  | none =>
    rw [List.findIdx?_eq_none_iff] at hq
    have : l.find? (isLoop id) = none := by
      rw [List.find?_eq_none]
      intro x hx hc
      have := hq x hx
      simp only [isLoop, Bool.and_eq_true] at hc
      rw [hc.1] at this; cases this
    rw [this]; rfl
  | some i =>
    rw [List.findIdx?_eq_some_iff_getElem] at hq
    obtain ⟨hi, he, hlt⟩ := hq
    simp only [decide_eq_true_iff] at he
    have hn : ¬ ((i : Int) < 0) := by omega
    simp only [hn, if_false, Int.toNat_natCast, List.getElem?_eq_getElem hi]
    have uniq : ∀ (j : Nat) (hj : j < l.length), l[j].id = id → j = i := fun j hj hid => by
      rcases Nat.lt_trichotomy j i with hlt' | rfl | hgt
      · have := hlt j hlt'; simp only [hid, decide_true, not_true_eq_false] at this
      · rfl
      · have := flist_id h (j - i - 1) i l[i] l[j] (List.getElem?_eq_getElem hi) (by rw [show i + (j - i - 1) + 1 = j by omega]; exact List.getElem?_eq_getElem hj)
        omega
    by_cases hk : l[i].kind = 4
    · have : l.find? (isLoop id) = some l[i] := by
        rw [List.find?_eq_some_iff_getElem]
        refine ⟨by simp [isLoop, he, hk], i, hi, rfl, fun j hj => ?_⟩
        have := hlt j hj
        simp only [decide_eq_true_iff] at this
        simp [isLoop, this]
      rw [this, if_pos hk]
    · have : l.find? (isLoop id) = none := by
        rw [List.find?_eq_none]
        intro x hx hc
        obtain ⟨j, hj, rfl⟩ := List.mem_iff_getElem.1 hx
        simp only [isLoop, Bool.and_eq_true, decide_eq_true_iff] at hc
        have e := uniq j hj hc.1
        subst e; exact hk hc.2
      rw [this, if_neg hk]
theorem lit4_res (a b c d : Pos) (S : St) : res (S.new 3 [poseV a, poseV b, poseV c, poseV d]) (.lsl S.m S.n 3 0 4) = some (.sl S.n 0 3 [poseV a, poseV b, poseV c, poseV d]) :=
  (Loc.new (st := S) (s := 3) (es := [poseV a, poseV b, poseV c, poseV d])).res fun e he => by
    simp only [List.mem_cons, List.not_mem_nil, or_false] at he
    rcases he with rfl | rfl | rfl | rfl <;> exact pose_plain _
theorem lit4_pos (a b c d : Pos) (t : Nat) : PosS (.sl t 0 3 [poseV a, poseV b, poseV c, poseV d]) [a, b, c, d] := ⟨_, .inr ⟨_, _, rfl⟩, All2.map poseV [a, b, c, d]⟩

def conC (l : List Fac) (limit : Int) (i j : Nat) : Bool := decide (¬ i = j) && consM l (((idsM l 4)[i]?).getD 0) (((idsM l 4)[j]?).getD 0) limit
def consGM (l : List Fac) (limit : Int) : List (List Bool) := if flistM l = true ∧ (idsM l 4).length ≤ 12 then matP (idsM l 4).length (conC l limit) (idsM l 4).length else []

theorem FactorIds_spec {v : AV} {l : List Fac} (h : FS v l) (hl : l.length ≤ 1048576) (kind : Int) (n : Nat) : Ok (L.call i_spec_FactorIds [v, .int .i64 kind] n) fun p => n ≤ p.2 ∧ IS p.1 (idsM l kind) ∧ New 1 n p.2 p.1 := by
  rw [call_spec_FactorIds, lit0_i, SlOf.len h, bind_some']
  refine Ok.bind (P := fun r => ∃ w st, r = (.exit 0, [.undef, w], st) ∧ AccI n st w (idsM l kind) ∧ n ≤ st.n)
    (Ok.loop (σ := AV × St) (Lp := fun i s => L.loop [1, 5, 9, 10, 11] [4, 5] b_spec_FactorIds_1 [.int .i64 kind, s.1, v, .int .i64 l.length, .int .i64 i] s.2) (I := fun i s => AccI n s.2 s.1 (idsM (l.take i) kind) ∧ n ≤ s.2.n) l.length ?_ ?_ l.length 0 (.lsl (st0 n).m (st0 n).n 1 0 0, (st0 n).new 1 []) (by omega) ⟨AccI.lit (Nat.le_refl _), Nat.le_succ _⟩) ?_
  · rintro ⟨w, st⟩ ⟨hA, hn⟩
    rw [loop_spec_FactorIds_1]
    simp only [bind_some', aBin_lss, cnd_dec, Int.lt_irrefl, if_false]
    rw [List.take_length] at hA
    exact ⟨_, rfl, w, st, rfl, hA, hn⟩
  · rintro i ⟨w, st⟩ hi ⟨hA, hn⟩ ih
    dsimp only at hA hn
    obtain ⟨p, q1, _, q2⟩ := FS.get (st := st) h (List.getElem?_eq_getElem hi) .i64
    have hil := ids_length (l.take i) kind
    rw [List.length_take] at hil
    have hstep := ids_take l kind i l[i] (List.getElem?_eq_getElem hi)
    rw [loop_spec_FactorIds_1]
    simp only [bind_some', aBin_lss, aBin_leq, aBin_gtr, aBin_geq, aBin_eql, aBin_neq, aBin_add, aBin_sub, aBin_mul, aBin_seql, aBin_sneq, aBinb_eql, aBinb_neq, aUn_not, aUn_neg, aSlen_str, extr0, extr1, extr2, q1, q2]
    refine Ok.cnd (fun _ => ?_) fun hf => absurd hf (by omega)
    rw [wrap_i (x := (i : Int) + 1) (by omega)]
    simp only [facV, retV_one, retV_two, retV_three, mkNew_agg, mkNew_zc, ld_top, ld_old, ld_setN, sto_top, sto_old, sto_setN, faddr_ptr, faddr_eptr, ld_eptr, new_m', new_n', setN_m', setN_n', st0_m', st0_n', put_m', put_n', AV.cells, AV.one, AV.stor, ldCells, setElem, splice, List.all_cons, List.all_nil, List.length_cons, List.length_nil, List.drop, List.take, List.head?_cons, List.getElem?_cons_zero, List.getElem?_cons_succ, List.set_cons_zero, List.nil_append, List.cons_append, List.append_nil, List.drop_zero, List.drop_succ_cons, List.drop_nil, List.take_zero, List.take_succ_cons, List.take_nil, cond_true, cond_false, Bool.and_self, Bool.and_true, and_self, and_true, true_and, if_true, bind_some', Nat.add_zero, Nat.zero_add, Nat.reduceAdd, Nat.reduceLeDiff, ne_eq, not_false_eq_true, Nat.add_eq_zero_iff, Nat.reduceEqDiff, one_ne_zero', zero_ne_one', nne1, nne2, nne3, Nat.add_right_cancel_iff, Nat.add_left_cancel_iff, Nat.le_refl, reduceCtorEq, bind_some', aBin_lss, aBin_leq, aBin_gtr, aBin_geq, aBin_eql, aBin_neq, aBin_add, aBin_sub, aBin_mul, aBin_seql, aBin_sneq, aBinb_eql, aBinb_neq, aUn_not, aUn_neg, aSlen_str, extr0, extr1, extr2]
    have hA' : AccI n (st.new 8 [facV l[i]]) w (idsM (l.take i) kind) := hA.frame (fun q hq => new_H_ne (Nat.ne_of_lt hq)) (Nat.le_succ _) (Nat.le_succ _)
    refine Ok.cnd (fun hk => ?_) fun hk => ?_
    · refine Ok.pushI hA' (Nat.le_trans hn (Nat.le_succ _)) (by omega) fun w2 st2 k1 k2 k3 k4 k5 => ih (w2, st2) ⟨by rw [hstep, if_pos hk]; exact k1, ?_⟩
      have : st.n + 1 ≤ st2.n := k3
      exact (show n ≤ st2.n by omega)
    · exact ih (w, _) ⟨by rw [hstep, if_neg hk, List.append_nil]; exact hA', Nat.le_trans hn (Nat.le_succ _)⟩
  · rintro _ ⟨w, st, rfl, hA, hn⟩
    obtain ⟨T, t1, _, t2, t3⟩ := hA.fin
    rw [k_spec_FactorIds_1_0, t1]
    exact ⟨_, rfl, hn, t2, t3⟩

theorem cell8 {S : St} {j t : Nat} {p : Fac} (h : S.H j = some ⟨t, 8, [facV p]⟩) (q : Fac) : aStore 8 (.ptr j t 0 0) (facV q) S = some (S.put j ⟨t, 8, [facV q]⟩) ∧ aLoad true 8 (S.put j ⟨t, 8, [facV q]⟩) (.ptr j t 0 0) = some (facV q) := by
  have hc : (facV q).stor = true ∧ (facV q).cells.length = 8 := ⟨rfl, rfl⟩
  refine ⟨?_, ?_⟩
  · simp only [aStore, hc, and_self, if_true, get_H h, Option.bind_some, List.getElem?_cons_zero]
    simp only [facV, AV.cells, setElem, List.length_cons, List.length_nil, Nat.reduceAdd, Nat.le_refl, if_true, splice, List.take_zero, List.nil_append, List.cons_append, Nat.zero_add, List.drop_succ_cons, List.drop_nil, List.set_cons_zero]
    rfl
  · simp [aLoad, get_H (put_H _ _ _), facV, AV.cells, ldCells]
theorem l21Find_ok {v : AV} {l : List Fac} (h : FS v l) (hl : l.length ≤ 4294967296) (id : Int) : Gives i_spec_l21Find [v, .int .i64 id] (.tup [facV (l21M l id).1, .bool (l21M l id).2]) := by
  intro n
  rw [call_spec_l21Find]
  simp only [retV_one, retV_two, retV_three, mkNew_agg, mkNew_zc, ld_top, ld_old, ld_setN, sto_top, setN_setN, faddr_ptr, faddr_eptr, ld_eptr, new_m', new_n', setN_m', setN_n', st0_m', st0_n', put_m', put_n', AV.cells, AV.one, AV.stor, ldCells, setElem, splice, List.all_cons, List.all_nil, List.length_cons, List.length_nil, List.drop, List.take, List.head?_cons, List.getElem?_cons_zero, List.getElem?_cons_succ, List.set_cons_zero, List.nil_append, List.cons_append, List.append_nil, List.drop_zero, List.drop_succ_cons, List.drop_nil, List.take_zero, List.take_succ_cons, List.take_nil, cond_true, cond_false, Bool.and_self, Bool.and_true, and_self, and_true, true_and, if_true, bind_some', Nat.add_zero, Nat.zero_add, Nat.reduceAdd, Nat.reduceLeDiff, ne_eq, not_false_eq_true, Nat.add_eq_zero_iff, Nat.reduceEqDiff, one_ne_zero', zero_ne_one', nne1, nne2, nne3, Nat.add_right_cancel_iff, Nat.add_left_cancel_iff, Nat.le_refl, reduceCtorEq, SlOf.len h]
  refine Ok.bind (P := fun r => ∃ st', n ≤ st'.n ∧ ((r = (.exit 0, [.ptr 0 n 0 0, .undef], st') ∧ st'.H 0 = some ⟨n, 8, [facV fac0]⟩ ∧ l21M l id = (fac0, false)) ∨ (r = (.ret, [.ptr 0 n 0 0, .bool true], st') ∧ aLoad true 8 st' (.ptr 0 n 0 0) = some (facV (l21M l id).1) ∧ (l21M l id).2 = true)))
    (Ok.loop (σ := St) (Lp := fun i s => L.loop [1, 4, 8, 9, 10] [4, 5] b_spec_l21Find_1 [.int .i64 id, .ptr 0 n 0 0, v, .int .i64 l.length, .int .i64 i] s) (I := fun i s => n ≤ s.n ∧ 0 < s.m ∧ s.H 0 = some ⟨n, 8, [facV fac0]⟩ ∧ ∀ j z, j < i → l[j]? = some z → isLoop id z = false) l.length ?_ ?_ l.length 0 _ (by omega) ⟨?_, ?_, ?_, fun j z hj => by omega⟩) ?_
  · rintro S ⟨h1, h2, h3, h4⟩
    rw [loop_spec_l21Find_1]
    simp only [bind_some', aBin_lss, cnd_dec, Int.lt_irrefl, if_false]
    refine ⟨_, rfl, S, h1, .inl ⟨rfl, h3, ?_⟩⟩
    have : l.find? (isLoop id) = none := by
      rw [List.find?_eq_none]
      intro x hx
      obtain ⟨j, hj, rfl⟩ := List.mem_iff_getElem.1 hx
      rw [h4 j _ hj (List.getElem?_eq_getElem hj)]; exact Bool.false_ne_true
    simp [l21M, this]
  · rintro i S hi ⟨h1, h2, h3, h4⟩ ih
    obtain ⟨p, q1, _, q2⟩ := FS.get (st := S) h (List.getElem?_eq_getElem hi) .i64
    have z0 : ¬ 0 = S.m := by omega
    have nx : ∀ S' : St, isLoop id l[i] = false → S'.H 0 = S.H 0 → S.m ≤ S'.m → S.n ≤ S'.n → Ok (L.loop [1, 4, 8, 9, 10] [4, 5] b_spec_l21Find_1 [.int .i64 id, .ptr 0 n 0 0, v, .int .i64 l.length, .int .i64 (i + 1 : Nat)] S') _ := fun S' hs e1 e2 e3 => ih S' ⟨by omega, by omega, by rw [e1]; exact h3, fun j z hj hz => by
      by_cases e : j = i
      · subst e; rw [List.getElem?_eq_getElem hi] at hz; cases hz; exact hs
      · exact h4 j z (by omega) hz⟩
    rw [loop_spec_l21Find_1]
    simp only [bind_some', aBin_lss, aBin_leq, aBin_gtr, aBin_geq, aBin_eql, aBin_neq, aBin_add, aBin_sub, aBin_mul, aBin_seql, aBin_sneq, aBinb_eql, aBinb_neq, aUn_not, aUn_neg, aSlen_str, extr0, extr1, extr2, q1, q2]
    refine Ok.cnd (fun _ => ?_) fun hf => absurd hf (by omega)
    simp only [facV, retV_one, retV_two, retV_three, mkNew_agg, mkNew_zc, ld_top, ld_old, ld_setN, sto_top, setN_setN, faddr_ptr, faddr_eptr, ld_eptr, new_m', new_n', setN_m', setN_n', st0_m', st0_n', put_m', put_n', AV.cells, AV.one, AV.stor, ldCells, setElem, splice, List.all_cons, List.all_nil, List.length_cons, List.length_nil, List.drop, List.take, List.head?_cons, List.getElem?_cons_zero, List.getElem?_cons_succ, List.set_cons_zero, List.nil_append, List.cons_append, List.append_nil, List.drop_zero, List.drop_succ_cons, List.drop_nil, List.take_zero, List.take_succ_cons, List.take_nil, cond_true, cond_false, Bool.and_self, Bool.and_true, and_self, and_true, true_and, if_true, bind_some', Nat.add_zero, Nat.zero_add, Nat.reduceAdd, Nat.reduceLeDiff, ne_eq, not_false_eq_true, Nat.add_eq_zero_iff, Nat.reduceEqDiff, one_ne_zero', zero_ne_one', nne1, nne2, nne3, Nat.add_right_cancel_iff, Nat.add_left_cancel_iff, Nat.le_refl, reduceCtorEq, bind_some', aBin_lss, aBin_leq, aBin_gtr, aBin_geq, aBin_eql, aBin_neq, aBin_add, aBin_sub, aBin_mul, aBin_seql, aBin_sneq, aBinb_eql, aBinb_neq, aUn_not, aUn_neg, aSlen_str, extr0, extr1, extr2, z0]
    refine Ok.cnd (fun hid => ?_) fun hid => ?_
    · refine Ok.cnd (fun hk => ?_) fun hk => ?_
      · obtain ⟨c1, c2⟩ := cell8 (S := S.new 8 [facV l[i]]) (j := 0) (t := n) (p := fac0) (by rw [new_H_ne z0]; exact h3) l[i]
        simp only [facV] at c1
        have hfd : l.find? (isLoop id) = some l[i] := by
          rw [List.find?_eq_some_iff_getElem]
          refine ⟨by simp [isLoop, hid, hk], i, hi, rfl, fun j hj => ?_⟩
          rw [h4 j _ hj (List.getElem?_eq_getElem (by omega))]; rfl
        rw [c1]
        exact ⟨_, rfl, _, (by simp only [put_n, new_n]; omega), .inr ⟨rfl, by simp only [l21M, hfd]; exact c2, by simp [l21M, hfd]⟩⟩
      · rw [wrap_i (by omega)]
        exact nx _ (by simp [isLoop, hk]) (new_H_ne z0) (Nat.le_succ _) (Nat.le_succ _)
    · rw [wrap_i (by omega)]
      exact nx _ (by simp [isLoop, hid]) (new_H_ne z0) (Nat.le_succ _) (Nat.le_succ _)
  · simp only [new_n', st0_n']; omega
  · simp only [new_m', st0_m']; omega
  · rfl
  · rintro _ ⟨st', hn, ⟨rfl, h3, h5⟩ | ⟨rfl, h4, h5⟩⟩
    · rw [k_spec_l21Find_1_0]
      obtain ⟨c1, c2⟩ := cell8 h3 fac0
      have c1' : aStore 8 (.ptr 0 n 0 0) zc_iissiiii st' = _ := c1
      rw [c1']
      simp only [bind_some', c2, retV_one, retV_two, retV_three, mkNew_agg, mkNew_zc, ld_top, ld_old, ld_setN, sto_top, setN_setN, faddr_ptr, faddr_eptr, ld_eptr, new_m', new_n', setN_m', setN_n', st0_m', st0_n', put_m', put_n', AV.cells, AV.one, AV.stor, ldCells, setElem, splice, List.all_cons, List.all_nil, List.length_cons, List.length_nil, List.drop, List.take, List.head?_cons, List.getElem?_cons_zero, List.getElem?_cons_succ, List.set_cons_zero, List.nil_append, List.cons_append, List.append_nil, List.drop_zero, List.drop_succ_cons, List.drop_nil, List.take_zero, List.take_succ_cons, List.take_nil, cond_true, cond_false, Bool.and_self, Bool.and_true, and_self, and_true, true_and, if_true, bind_some', Nat.add_zero, Nat.zero_add, Nat.reduceAdd, Nat.reduceLeDiff, ne_eq, not_false_eq_true, Nat.add_eq_zero_iff, Nat.reduceEqDiff, one_ne_zero', zero_ne_one', nne1, nne2, nne3, Nat.add_right_cancel_iff, Nat.add_left_cancel_iff, Nat.le_refl, reduceCtorEq]
      exact Ok.ret rfl hn (by rw [h5])
    · rw [k_spec_l21Find_1_ret]
      simp only [h4, retV_one, retV_two, retV_three, mkNew_agg, mkNew_zc, ld_top, ld_old, ld_setN, sto_top, setN_setN, faddr_ptr, faddr_eptr, ld_eptr, new_m', new_n', setN_m', setN_n', st0_m', st0_n', put_m', put_n', AV.cells, AV.one, AV.stor, ldCells, setElem, splice, List.all_cons, List.all_nil, List.length_cons, List.length_nil, List.drop, List.take, List.head?_cons, List.getElem?_cons_zero, List.getElem?_cons_succ, List.set_cons_zero, List.nil_append, List.cons_append, List.append_nil, List.drop_zero, List.drop_succ_cons, List.drop_nil, List.take_zero, List.take_succ_cons, List.take_nil, cond_true, cond_false, Bool.and_self, Bool.and_true, and_self, and_true, true_and, if_true, bind_some', Nat.add_zero, Nat.zero_add, Nat.reduceAdd, Nat.reduceLeDiff, ne_eq, not_false_eq_true, Nat.add_eq_zero_iff, Nat.reduceEqDiff, one_ne_zero', zero_ne_one', nne1, nne2, nne3, Nat.add_right_cancel_iff, Nat.add_left_cancel_iff, Nat.le_refl, reduceCtorEq]
      exact Ok.ret rfl hn (by rw [h5])

theorem l01In_call (a b c : Int) (n : Nat) : L.call i_spec_l01In [.int .i64 a, .int .i64 b, .int .i64 c] n = some (.bool (decide (b ≤ a ∧ a ≤ c)), n) := by
  rw [call_spec_l01In]
  simp only [aBin_geq, bind_some', cnd_dec, aBin_leq, resTup_bool, n_st0]
  by_cases h : b ≤ a <;> simp [h]
theorem cl_spec_l01In (a b c : Int) (st : St) : clV L i_spec_l01In 0 [.int .i64 a, .int .i64 b, .int .i64 c] st = some (.bool (decide (b ≤ a ∧ a ≤ c)), st) :=
  call_same (plain3 (plain_int _ _) (plain_int _ _) (plain_int _ _)) (l01In_call a b c _)

theorem l01In_g (a b c : Int) : Gives i_spec_l01In [.int .i64 a, .int .i64 b, .int .i64 c] (.bool (decide (b ≤ a ∧ a ≤ c))) := Gives.of (l01In_call a b c)
theorem IsValidPose_spec (p : Pos) : Gives i_spec_IsValidPose [poseV p] (.bool (poseOk p)) := by
  intro n
  rw [call_spec_IsValidPose]
  simp only [poseV, retV_one, retV_two, retV_three, mkNew_agg, mkNew_zc, ld_top, ld_old, ld_setN, sto_top, sto_old, sto_setN, faddr_ptr, faddr_eptr, ld_eptr, new_m', new_n', setN_m', setN_n', st0_m', st0_n', put_m', put_n', AV.cells, AV.one, AV.stor, ldCells, setElem, splice, List.all_cons, List.all_nil, List.length_cons, List.length_nil, List.drop, List.take, List.head?_cons, List.getElem?_cons_zero, List.getElem?_cons_succ, List.set_cons_zero, List.nil_append, List.cons_append, List.append_nil, List.drop_zero, List.drop_succ_cons, List.drop_nil, List.take_zero, List.take_succ_cons, List.take_nil, cond_true, cond_false, Bool.and_self, Bool.and_true, and_self, and_true, true_and, if_true, bind_some', Nat.add_zero, Nat.zero_add, Nat.reduceAdd, Nat.reduceLeDiff, ne_eq, not_false_eq_true, Nat.add_eq_zero_iff, Nat.reduceEqDiff, one_ne_zero', zero_ne_one', nne1, nne2, nne3, Nat.add_right_cancel_iff, Nat.add_left_cancel_iff, Nat.le_refl, reduceCtorEq, bind_some', aBin_lss, aBin_leq, aBin_gtr, aBin_geq, aBin_eql, aBin_neq, aBin_add, aBin_sub, aBin_mul, aBin_seql, aBin_sneq, aBinb_eql, aBinb_neq, aUn_not, aUn_neg, aSlen_str, extr0, extr1, extr2]
  repeat' first
    | (refine Ok.cnd (fun h => ?_) fun h => ?_) | (refine Ok.cndn (fun h => ?_) fun h => ?_) | (refine Ok.cndb (fun h => ?_) fun h => ?_) | (refine Ok.cndnb (fun h => ?_) fun h => ?_)
    | (refine Ok.gives (l01In_g _ _ _) (pB rfl) fun m hm => ?_; (simp only [retV_one, retV_two, retV_three, mkNew_agg, mkNew_zc, ld_top, ld_old, ld_setN, sto_top, sto_old, sto_setN, faddr_ptr, faddr_eptr, ld_eptr, new_m', new_n', setN_m', setN_n', st0_m', st0_n', put_m', put_n', AV.cells, AV.one, AV.stor, ldCells, setElem, splice, List.all_cons, List.all_nil, List.length_cons, List.length_nil, List.drop, List.take, List.head?_cons, List.getElem?_cons_zero, List.getElem?_cons_succ, List.set_cons_zero, List.nil_append, List.cons_append, List.append_nil, List.drop_zero, List.drop_succ_cons, List.drop_nil, List.take_zero, List.take_succ_cons, List.take_nil, cond_true, cond_false, Bool.and_self, Bool.and_true, and_self, and_true, true_and, if_true, bind_some', Nat.add_zero, Nat.zero_add, Nat.reduceAdd, Nat.reduceLeDiff, ne_eq, not_false_eq_true, Nat.add_eq_zero_iff, Nat.reduceEqDiff, one_ne_zero', zero_ne_one', nne1, nne2, nne3, Nat.add_right_cancel_iff, Nat.add_left_cancel_iff, Nat.le_refl, reduceCtorEq, bind_some', aBin_lss, aBin_leq, aBin_gtr, aBin_geq, aBin_eql, aBin_neq, aBin_add, aBin_sub, aBin_mul, aBin_seql, aBin_sneq, aBinb_eql, aBinb_neq, aUn_not, aUn_neg, aSlen_str, extr0, extr1, extr2]))
  all_goals refine Ok.retb (by (try simp only [new_n', setN_n', st0_n', put_n'] at *); first | omega | exact Nat.le_succ _ | exact Nat.le_refl _) ?_
  all_goals grind [poseOk]


theorem RotateXY_spec_loop (t : Int) (st : St) (ht : 0 ≤ t ∧ t ≤ 3) : ∀ (k : Nat) (i : Int) (x y : Int), i + k = t → 0 ≤ i → -1000000 ≤ x ∧ x ≤ 1000000 ∧ -1000000 ≤ y ∧ y ≤ 1000000 →
    L.loop [0, 1, 2, 8] [0, 1, 6, 7] b_spec_RotateXY_1 [.int .i64 x, .int .i64 y, .int .i64 t, .int .i64 i] st = some (.exit 0, [.int .i64 (rotN k (x, y)).1, .int .i64 (rotN k (x, y)).2, .undef, .undef], st)
  | 0, i, x, y, h, h0, hb => by
    rw [loop_spec_RotateXY_1]
    simp only [bind_some', aBin_lss, cnd_dec]
    rw [if_neg (by omega)]; rfl
  | k + 1, i, x, y, h, h0, hb => by
    rw [loop_spec_RotateXY_1]
    simp only [bind_some', aBin_lss, cnd_dec, aUn_neg, aBin_add]
    rw [if_pos (by omega), wrap64 (by omega) (by omega), wrap64 (by omega) (by omega), RotateXY_spec_loop t st ht k (i + 1) (0 - y) x (by omega) (by omega) (by omega)]
    simp only [rotN, Int.zero_sub]

theorem RotateXY_spec (x y t : Int) : Gives i_spec_RotateXY [.int .i64 x, .int .i64 y, .int .i64 t] (.tup [.int .i64 (rotM x y t).1, .int .i64 (rotM x y t).2]) := by
  intro n
  rw [call_spec_RotateXY]
  simp only [mkBuild, retV_one, retV_two, retV_three, mkNew_agg, mkNew_zc, ld_top, ld_old, ld_setN, sto_top, sto_old, sto_setN, faddr_ptr, faddr_eptr, ld_eptr, new_m', new_n', setN_m', setN_n', st0_m', st0_n', put_m', put_n', AV.cells, AV.one, AV.stor, ldCells, setElem, splice, List.all_cons, List.all_nil, List.length_cons, List.length_nil, List.drop, List.take, List.head?_cons, List.getElem?_cons_zero, List.getElem?_cons_succ, List.set_cons_zero, List.nil_append, List.cons_append, List.append_nil, List.drop_zero, List.drop_succ_cons, List.drop_nil, List.take_zero, List.take_succ_cons, List.take_nil, cond_true, cond_false, Bool.and_self, Bool.and_true, and_self, and_true, true_and, if_true, bind_some', Nat.add_zero, Nat.zero_add, Nat.reduceAdd, Nat.reduceLeDiff, ne_eq, not_false_eq_true, Nat.add_eq_zero_iff, Nat.reduceEqDiff, one_ne_zero', zero_ne_one', nne1, nne2, nne3, Nat.add_right_cancel_iff, Nat.add_left_cancel_iff, Nat.le_refl, reduceCtorEq, bind_some', aBin_lss, aBin_leq, aBin_gtr, aBin_geq, aBin_eql, aBin_neq, aBin_add, aBin_sub, aBin_mul, aBin_seql, aBin_sneq, aBinb_eql, aBinb_neq, aUn_not, aUn_neg, aSlen_str, extr0, extr1, extr2]
  refine Ok.gives (IsValidPose_spec ⟨t, x, y⟩) (pB rfl) fun m hm => ?_
  (simp only [retV_one, retV_two, retV_three, mkNew_agg, mkNew_zc, ld_top, ld_old, ld_setN, sto_top, sto_old, sto_setN, faddr_ptr, faddr_eptr, ld_eptr, new_m', new_n', setN_m', setN_n', st0_m', st0_n', put_m', put_n', AV.cells, AV.one, AV.stor, ldCells, setElem, splice, List.all_cons, List.all_nil, List.length_cons, List.length_nil, List.drop, List.take, List.head?_cons, List.getElem?_cons_zero, List.getElem?_cons_succ, List.set_cons_zero, List.nil_append, List.cons_append, List.append_nil, List.drop_zero, List.drop_succ_cons, List.drop_nil, List.take_zero, List.take_succ_cons, List.take_nil, cond_true, cond_false, Bool.and_self, Bool.and_true, and_self, and_true, true_and, if_true, bind_some', Nat.add_zero, Nat.zero_add, Nat.reduceAdd, Nat.reduceLeDiff, ne_eq, not_false_eq_true, Nat.add_eq_zero_iff, Nat.reduceEqDiff, one_ne_zero', zero_ne_one', nne1, nne2, nne3, Nat.add_right_cancel_iff, Nat.add_left_cancel_iff, Nat.le_refl, reduceCtorEq, bind_some', aBin_lss, aBin_leq, aBin_gtr, aBin_geq, aBin_eql, aBin_neq, aBin_add, aBin_sub, aBin_mul, aBin_seql, aBin_sneq, aBinb_eql, aBinb_neq, aUn_not, aUn_neg, aSlen_str, extr0, extr1, extr2])
  refine Ok.cndnb (fun h => ?_) fun h => ?_
  · refine Ok.ret (by first | rfl | (simp only [retV_one, retV_two, retV_three]; rfl)) (by (try simp only [new_n', setN_n', st0_n', put_n'] at *); first | omega | exact Nat.le_succ _ | exact Nat.le_refl _) ?_
    simp [rotM, h]
  · have h' := h
    simp only [poseOk, decide_eq_true_iff] at h'
    rw [RotateXY_spec_loop t _ (by omega) t.toNat 0 x y (by omega) (by omega) (by omega), bind_some', k_spec_RotateXY_1_0]
    refine Ok.ret (by first | rfl | (simp only [retV_one, retV_two, retV_three]; rfl)) (by (try simp only [new_n', setN_n', st0_n', put_n'] at *); first | omega | exact Nat.le_succ _ | exact Nat.le_refl _) ?_
    simp [rotM, h]

theorem compose_spec (p q : Pos) : Gives i_spec_l05Compose [poseV p, poseV q] (.tup [poseV (compM p q).1, .bool (compM p q).2]) := by
  intro n
  rw [call_spec_l05Compose]
  simp only [poseV, retV_one, retV_two, retV_three, mkNew_agg, mkNew_zc, ld_top, ld_old, ld_setN, sto_top, sto_old, sto_setN, faddr_ptr, faddr_eptr, ld_eptr, new_m', new_n', setN_m', setN_n', st0_m', st0_n', put_m', put_n', AV.cells, AV.one, AV.stor, ldCells, setElem, splice, List.all_cons, List.all_nil, List.length_cons, List.length_nil, List.drop, List.take, List.head?_cons, List.getElem?_cons_zero, List.getElem?_cons_succ, List.set_cons_zero, List.nil_append, List.cons_append, List.append_nil, List.drop_zero, List.drop_succ_cons, List.drop_nil, List.take_zero, List.take_succ_cons, List.take_nil, cond_true, cond_false, Bool.and_self, Bool.and_true, and_self, and_true, true_and, if_true, bind_some', Nat.add_zero, Nat.zero_add, Nat.reduceAdd, Nat.reduceLeDiff, ne_eq, not_false_eq_true, Nat.add_eq_zero_iff, Nat.reduceEqDiff, one_ne_zero', zero_ne_one', nne1, nne2, nne3, Nat.add_right_cancel_iff, Nat.add_left_cancel_iff, Nat.le_refl, reduceCtorEq, bind_some', aBin_lss, aBin_leq, aBin_gtr, aBin_geq, aBin_eql, aBin_neq, aBin_add, aBin_sub, aBin_mul, aBin_seql, aBin_sneq, aBinb_eql, aBinb_neq, aUn_not, aUn_neg, aSlen_str, extr0, extr1, extr2]
  refine Ok.gives (IsValidPose_spec p) (pB rfl) fun m1 h1 => ?_
  (simp only [retV_one, retV_two, retV_three, mkNew_agg, mkNew_zc, ld_top, ld_old, ld_setN, sto_top, sto_old, sto_setN, faddr_ptr, faddr_eptr, ld_eptr, new_m', new_n', setN_m', setN_n', st0_m', st0_n', put_m', put_n', AV.cells, AV.one, AV.stor, ldCells, setElem, splice, List.all_cons, List.all_nil, List.length_cons, List.length_nil, List.drop, List.take, List.head?_cons, List.getElem?_cons_zero, List.getElem?_cons_succ, List.set_cons_zero, List.nil_append, List.cons_append, List.append_nil, List.drop_zero, List.drop_succ_cons, List.drop_nil, List.take_zero, List.take_succ_cons, List.take_nil, cond_true, cond_false, Bool.and_self, Bool.and_true, and_self, and_true, true_and, if_true, bind_some', Nat.add_zero, Nat.zero_add, Nat.reduceAdd, Nat.reduceLeDiff, ne_eq, not_false_eq_true, Nat.add_eq_zero_iff, Nat.reduceEqDiff, one_ne_zero', zero_ne_one', nne1, nne2, nne3, Nat.add_right_cancel_iff, Nat.add_left_cancel_iff, Nat.le_refl, reduceCtorEq, bind_some', aBin_lss, aBin_leq, aBin_gtr, aBin_geq, aBin_eql, aBin_neq, aBin_add, aBin_sub, aBin_mul, aBin_seql, aBin_sneq, aBinb_eql, aBinb_neq, aUn_not, aUn_neg, aSlen_str, extr0, extr1, extr2])
  refine Ok.cndnb (fun hp => ?_) fun hp => ?_
  · refine Ok.ret (by first | rfl | (simp only [retV_one, retV_two, retV_three]; rfl)) (by (try simp only [new_n', setN_n', st0_n', put_n'] at *); first | omega | exact Nat.le_succ _ | exact Nat.le_refl _) ?_
    simp [compM, hp, pose0]
  refine Ok.gives (IsValidPose_spec q) (pB rfl) fun m2 h2 => ?_
  (simp only [retV_one, retV_two, retV_three, mkNew_agg, mkNew_zc, ld_top, ld_old, ld_setN, sto_top, sto_old, sto_setN, faddr_ptr, faddr_eptr, ld_eptr, new_m', new_n', setN_m', setN_n', st0_m', st0_n', put_m', put_n', AV.cells, AV.one, AV.stor, ldCells, setElem, splice, List.all_cons, List.all_nil, List.length_cons, List.length_nil, List.drop, List.take, List.head?_cons, List.getElem?_cons_zero, List.getElem?_cons_succ, List.set_cons_zero, List.nil_append, List.cons_append, List.append_nil, List.drop_zero, List.drop_succ_cons, List.drop_nil, List.take_zero, List.take_succ_cons, List.take_nil, cond_true, cond_false, Bool.and_self, Bool.and_true, and_self, and_true, true_and, if_true, bind_some', Nat.add_zero, Nat.zero_add, Nat.reduceAdd, Nat.reduceLeDiff, ne_eq, not_false_eq_true, Nat.add_eq_zero_iff, Nat.reduceEqDiff, one_ne_zero', zero_ne_one', nne1, nne2, nne3, Nat.add_right_cancel_iff, Nat.add_left_cancel_iff, Nat.le_refl, reduceCtorEq, bind_some', aBin_lss, aBin_leq, aBin_gtr, aBin_geq, aBin_eql, aBin_neq, aBin_add, aBin_sub, aBin_mul, aBin_seql, aBin_sneq, aBinb_eql, aBinb_neq, aUn_not, aUn_neg, aSlen_str, extr0, extr1, extr2])
  refine Ok.cndnb (fun hq => ?_) fun hq => ?_
  · refine Ok.ret (by first | rfl | (simp only [retV_one, retV_two, retV_three]; rfl)) (by (try simp only [new_n', setN_n', st0_n', put_n'] at *); first | omega | exact Nat.le_succ _ | exact Nat.le_refl _) ?_
    simp [compM, hp, hq, pose0]
  refine Ok.gives (RotateXY_spec q.x q.y p.t) (pB rfl) fun m3 h3 => ?_
  have hb := rotM_bound q.x q.y p.t
  have hp' := hp; have hq' := hq
  simp only [poseOk, decide_eq_true_iff] at hp' hq'
  simp only [mkBuild, retV_one, retV_two, retV_three, mkNew_agg, mkNew_zc, ld_top, ld_old, ld_setN, sto_top, sto_old, sto_setN, faddr_ptr, faddr_eptr, ld_eptr, new_m', new_n', setN_m', setN_n', st0_m', st0_n', put_m', put_n', AV.cells, AV.one, AV.stor, ldCells, setElem, splice, List.all_cons, List.all_nil, List.length_cons, List.length_nil, List.drop, List.take, List.head?_cons, List.getElem?_cons_zero, List.getElem?_cons_succ, List.set_cons_zero, List.nil_append, List.cons_append, List.append_nil, List.drop_zero, List.drop_succ_cons, List.drop_nil, List.take_zero, List.take_succ_cons, List.take_nil, cond_true, cond_false, Bool.and_self, Bool.and_true, and_self, and_true, true_and, if_true, bind_some', Nat.add_zero, Nat.zero_add, Nat.reduceAdd, Nat.reduceLeDiff, ne_eq, not_false_eq_true, Nat.add_eq_zero_iff, Nat.reduceEqDiff, one_ne_zero', zero_ne_one', nne1, nne2, nne3, Nat.add_right_cancel_iff, Nat.add_left_cancel_iff, Nat.le_refl, reduceCtorEq, bind_some', aBin_lss, aBin_leq, aBin_gtr, aBin_geq, aBin_eql, aBin_neq, aBin_add, aBin_sub, aBin_mul, aBin_seql, aBin_sneq, aBinb_eql, aBinb_neq, aUn_not, aUn_neg, aSlen_str, extr0, extr1, extr2, aBin_rem _ _ _ (show (4 : Int) ≠ 0 by omega)]
  rw [wrap_i (x := p.t + q.t) (by omega), wrap_i (by omega), wrap_i (by omega)]
  refine Ok.gives (IsValidPose_spec ⟨(p.t + q.t).tmod 4, p.x + (rotM q.x q.y p.t).1, p.y + (rotM q.x q.y p.t).2⟩) (pB rfl) fun m4 h4 => ?_
  (simp only [retV_one, retV_two, retV_three, mkNew_agg, mkNew_zc, ld_top, ld_old, ld_setN, sto_top, sto_old, sto_setN, faddr_ptr, faddr_eptr, ld_eptr, new_m', new_n', setN_m', setN_n', st0_m', st0_n', put_m', put_n', AV.cells, AV.one, AV.stor, ldCells, setElem, splice, List.all_cons, List.all_nil, List.length_cons, List.length_nil, List.drop, List.take, List.head?_cons, List.getElem?_cons_zero, List.getElem?_cons_succ, List.set_cons_zero, List.nil_append, List.cons_append, List.append_nil, List.drop_zero, List.drop_succ_cons, List.drop_nil, List.take_zero, List.take_succ_cons, List.take_nil, cond_true, cond_false, Bool.and_self, Bool.and_true, and_self, and_true, true_and, if_true, bind_some', Nat.add_zero, Nat.zero_add, Nat.reduceAdd, Nat.reduceLeDiff, ne_eq, not_false_eq_true, Nat.add_eq_zero_iff, Nat.reduceEqDiff, one_ne_zero', zero_ne_one', nne1, nne2, nne3, Nat.add_right_cancel_iff, Nat.add_left_cancel_iff, Nat.le_refl, reduceCtorEq, bind_some', aBin_lss, aBin_leq, aBin_gtr, aBin_geq, aBin_eql, aBin_neq, aBin_add, aBin_sub, aBin_mul, aBin_seql, aBin_sneq, aBinb_eql, aBinb_neq, aUn_not, aUn_neg, aSlen_str, extr0, extr1, extr2])
  refine Ok.cndnb (fun hr => ?_) fun hr => ?_
  · refine Ok.ret (by first | rfl | (simp only [retV_one, retV_two, retV_three]; rfl)) (by (try simp only [new_n', setN_n', st0_n', put_n'] at *); first | omega | exact Nat.le_succ _ | exact Nat.le_refl _) ?_
    simp [compM, hp, hq, hr, pose0]
  · refine Ok.ret (by first | rfl | (simp only [retV_one, retV_two, retV_three]; rfl)) (by (try simp only [new_n', setN_n', st0_n', put_n'] at *); first | omega | exact Nat.le_succ _ | exact Nat.le_refl _) ?_
    simp [compM, hp, hq, hr]

theorem Inverse_spec (p : Pos) : Gives i_spec_Inverse [poseV p] (poseV (invM p)) := by
  intro n
  rw [call_spec_Inverse]
  simp only [poseV, retV_one, retV_two, retV_three, mkNew_agg, mkNew_zc, ld_top, ld_old, ld_setN, sto_top, sto_old, sto_setN, faddr_ptr, faddr_eptr, ld_eptr, new_m', new_n', setN_m', setN_n', st0_m', st0_n', put_m', put_n', AV.cells, AV.one, AV.stor, ldCells, setElem, splice, List.all_cons, List.all_nil, List.length_cons, List.length_nil, List.drop, List.take, List.head?_cons, List.getElem?_cons_zero, List.getElem?_cons_succ, List.set_cons_zero, List.nil_append, List.cons_append, List.append_nil, List.drop_zero, List.drop_succ_cons, List.drop_nil, List.take_zero, List.take_succ_cons, List.take_nil, cond_true, cond_false, Bool.and_self, Bool.and_true, and_self, and_true, true_and, if_true, bind_some', Nat.add_zero, Nat.zero_add, Nat.reduceAdd, Nat.reduceLeDiff, ne_eq, not_false_eq_true, Nat.add_eq_zero_iff, Nat.reduceEqDiff, one_ne_zero', zero_ne_one', nne1, nne2, nne3, Nat.add_right_cancel_iff, Nat.add_left_cancel_iff, Nat.le_refl, reduceCtorEq, bind_some', aBin_lss, aBin_leq, aBin_gtr, aBin_geq, aBin_eql, aBin_neq, aBin_add, aBin_sub, aBin_mul, aBin_seql, aBin_sneq, aBinb_eql, aBinb_neq, aUn_not, aUn_neg, aSlen_str, extr0, extr1, extr2]
  refine Ok.gives (IsValidPose_spec p) (pB rfl) fun m1 h1 => ?_
  (simp only [retV_one, retV_two, retV_three, mkNew_agg, mkNew_zc, ld_top, ld_old, ld_setN, sto_top, sto_old, sto_setN, faddr_ptr, faddr_eptr, ld_eptr, new_m', new_n', setN_m', setN_n', st0_m', st0_n', put_m', put_n', AV.cells, AV.one, AV.stor, ldCells, setElem, splice, List.all_cons, List.all_nil, List.length_cons, List.length_nil, List.drop, List.take, List.head?_cons, List.getElem?_cons_zero, List.getElem?_cons_succ, List.set_cons_zero, List.nil_append, List.cons_append, List.append_nil, List.drop_zero, List.drop_succ_cons, List.drop_nil, List.take_zero, List.take_succ_cons, List.take_nil, cond_true, cond_false, Bool.and_self, Bool.and_true, and_self, and_true, true_and, if_true, bind_some', Nat.add_zero, Nat.zero_add, Nat.reduceAdd, Nat.reduceLeDiff, ne_eq, not_false_eq_true, Nat.add_eq_zero_iff, Nat.reduceEqDiff, one_ne_zero', zero_ne_one', nne1, nne2, nne3, Nat.add_right_cancel_iff, Nat.add_left_cancel_iff, Nat.le_refl, reduceCtorEq, bind_some', aBin_lss, aBin_leq, aBin_gtr, aBin_geq, aBin_eql, aBin_neq, aBin_add, aBin_sub, aBin_mul, aBin_seql, aBin_sneq, aBinb_eql, aBinb_neq, aUn_not, aUn_neg, aSlen_str, extr0, extr1, extr2])
  refine Ok.cndnb (fun hp => ?_) fun hp => ?_
  · refine Ok.ret (by first | rfl | (simp only [retV_one, retV_two, retV_three]; rfl)) (by (try simp only [new_n', setN_n', st0_n', put_n'] at *); first | omega | exact Nat.le_succ _ | exact Nat.le_refl _) ?_
    simp [invM, hp, pose0, retV_one]
  have hp' := hp
  simp only [poseOk, decide_eq_true_iff] at hp'
  simp only [aBin_rem _ _ _ (show (4 : Int) ≠ 0 by omega), bind_some']
  rw [wrap_i (x := 4 - p.t) (by omega), wrap_i (by omega), wrap_i (by omega)]
  simp only [Int.zero_sub]
  refine Ok.gives (RotateXY_spec (-p.x) (-p.y) ((4 - p.t).tmod 4)) (pB rfl) fun m3 h3 => ?_
  simp only [mkBuild, retV_one, retV_two, retV_three, mkNew_agg, mkNew_zc, ld_top, ld_old, ld_setN, sto_top, sto_old, sto_setN, faddr_ptr, faddr_eptr, ld_eptr, new_m', new_n', setN_m', setN_n', st0_m', st0_n', put_m', put_n', AV.cells, AV.one, AV.stor, ldCells, setElem, splice, List.all_cons, List.all_nil, List.length_cons, List.length_nil, List.drop, List.take, List.head?_cons, List.getElem?_cons_zero, List.getElem?_cons_succ, List.set_cons_zero, List.nil_append, List.cons_append, List.append_nil, List.drop_zero, List.drop_succ_cons, List.drop_nil, List.take_zero, List.take_succ_cons, List.take_nil, cond_true, cond_false, Bool.and_self, Bool.and_true, and_self, and_true, true_and, if_true, bind_some', Nat.add_zero, Nat.zero_add, Nat.reduceAdd, Nat.reduceLeDiff, ne_eq, not_false_eq_true, Nat.add_eq_zero_iff, Nat.reduceEqDiff, one_ne_zero', zero_ne_one', nne1, nne2, nne3, Nat.add_right_cancel_iff, Nat.add_left_cancel_iff, Nat.le_refl, reduceCtorEq, bind_some', aBin_lss, aBin_leq, aBin_gtr, aBin_geq, aBin_eql, aBin_neq, aBin_add, aBin_sub, aBin_mul, aBin_seql, aBin_sneq, aBinb_eql, aBinb_neq, aUn_not, aUn_neg, aSlen_str, extr0, extr1, extr2]
  refine Ok.ret (by first | rfl | (simp only [retV_one, retV_two, retV_three]; rfl)) (by (try simp only [new_n', setN_n', st0_n', put_n'] at *); first | omega | exact Nat.le_succ _ | exact Nat.le_refl _) ?_
  simp [invM, hp, retV_one]

theorem l17Index_ok {v : AV} {l : List ByteArray} (h : SS v l) (hl : l.length ≤ 4294967296) (s : ByteArray) : Gives i_spec_l17Index [v, .str s] (.int .i64 (fidx (fun x => decide (x = s)) l)) := by
  intro n
  rw [call_spec_l17Index, SlOf.len h, bind_some']
  refine Ok.bind (P := fun r => ∃ st', n ≤ st'.n ∧ ((r = (.exit 0, [.undef], st') ∧ fidx (fun x => decide (x = s)) l = -1) ∨ r = (.ret, [.int .i64 (fidx (fun x => decide (x = s)) l)], st')))
    (find_loop (p := fun x => decide (x = s)) (l := l) (n0 := n) (fun i st => L.loop [1, 7, 8, 9] [4] b_spec_l17Index_1 [.str s, v, .int .i64 l.length, .int .i64 i] st) l.length rfl ?_ ?_ (st0 n) (Nat.le_refl _)) ?_
  · intro st hn hf
    rw [loop_spec_l17Index_1]
    simp only [bind_some', aBin_lss, cnd_dec, Int.lt_irrefl, if_false]
    exact ⟨_, rfl, st, hn, .inl ⟨rfl, hf⟩⟩
  · intro i x st hx hn _ hno hyes
    have hi := (List.getElem?_eq_some_iff.1 hx).1
    obtain ⟨p, q1, q2⟩ := SS.get (st := st) h hx .i64
    rw [loop_spec_l17Index_1]
    simp only [bind_some', aBin_lss, aBin_leq, aBin_gtr, aBin_geq, aBin_eql, aBin_neq, aBin_add, aBin_sub, aBin_mul, aBin_seql, aBin_sneq, aBinb_eql, aBinb_neq, aUn_not, aUn_neg, aSlen_str, extr0, extr1, extr2, q1, q2]
    refine Ok.cnd (fun _ => ?_) fun hf => absurd hf (by omega)
    refine Ok.cnd (fun hp => ?_) fun hp => ?_
    · exact ⟨_, rfl, st, hn, .inr (by rw [hyes (decide_eq_true hp)])⟩
    · rw [wrap64 (by omega) (by omega)]; exact hno (decide_eq_false hp) st hn
  · rintro _ ⟨st', hn, ⟨rfl, hf⟩ | rfl⟩
    · rw [k_spec_l17Index_1_0]; exact Ok.reti hn hf.symm
    · rw [k_spec_l17Index_1_ret]; exact Ok.reti hn rfl

def reckR (o : Option (Nat × Pos)) : AV := match o with | none => .tup [.int .i64 (-1), poseV pose0] | some (i, q) => .tup [.int .i64 (i : Int), poseV q]
def rkQ (n : Nat) (o : Option (Nat × Pos)) (r : XT × List AV × St) : Prop := ∃ v st', r = ((match o with | none => XT.exit 0 | some _ => XT.ret), [v, .ptr 0 n 0 0], st') ∧ n ≤ st'.n ∧ match o with
      | none => st'.H 0 = some ⟨n, 3, [poseV pose0]⟩
      | some (i, q) => v = .int .i64 (i : Int) ∧ aLoad true 3 st' (.ptr 0 n 0 0) = some (poseV q)
theorem l17Reckon_ok {vl vn T U : AV} {l : List Fac} {ps : List Pos} {kn : List Bool} (h : FS vl l) (hf : flistM l = true) (hn : SS vn (namesM l)) (hT : PosS T ps) (hU : BoolSl U kn) (hp : ps.length = (namesM l).length) (hk : kn.length = (namesM l).length) : Gives i_spec_l17Reckon [vl, vn, T, U] (reckR (reckM (namesM l) l ps kn)) := by
  intro n
  have h40 : l.length ≤ 40 := by simp only [flistM, Bool.and_eq_true, decide_eq_true_iff] at hf; exact hf.1.1
  have hnl := names_length l
  rw [call_spec_l17Reckon]
  simp only [retV_one, retV_two, retV_three, mkNew_agg, mkNew_zc, ld_top, ld_old, ld_setN, sto_top, setN_setN, faddr_ptr, faddr_eptr, ld_eptr, new_m', new_n', setN_m', setN_n', st0_m', st0_n', put_m', put_n', AV.cells, AV.one, AV.stor, ldCells, setElem, splice, List.all_cons, List.all_nil, List.length_cons, List.length_nil, List.drop, List.take, List.head?_cons, List.getElem?_cons_zero, List.getElem?_cons_succ, List.set_cons_zero, List.nil_append, List.cons_append, List.append_nil, List.drop_zero, List.drop_succ_cons, List.drop_nil, List.take_zero, List.take_succ_cons, List.take_nil, cond_true, cond_false, Bool.and_self, Bool.and_true, and_self, and_true, true_and, if_true, bind_some', Nat.add_zero, Nat.zero_add, Nat.reduceAdd, Nat.reduceLeDiff, ne_eq, not_false_eq_true, Nat.add_eq_zero_iff, Nat.reduceEqDiff, one_ne_zero', zero_ne_one', nne1, nne2, nne3, Nat.add_right_cancel_iff, Nat.add_left_cancel_iff, Nat.le_refl, reduceCtorEq, SlOf.len h]
  refine Ok.bind (P := rkQ n (reckM (namesM l) l ps kn))
    (Ok.loop (σ := St) (Lp := fun i s => L.loop [1, 2, 3, 9, 18, 19, 20] [8, 9] b_spec_l17Reckon_1 [vn, T, U, .ptr 0 n 0 0, vl, .int .i64 l.length, .int .i64 i] s) (I := fun i s => n ≤ s.n ∧ 0 < s.m ∧ s.H 0 = some ⟨n, 3, [poseV pose0]⟩ ∧ ∀ j z, j < i → l[j]? = some z → stepAt (namesM l) ps kn z = none) l.length ?_ ?_ l.length 0 _ (by omega) ⟨Nat.le_succ _, Nat.succ_pos _, new_H _ _ _, fun j z hj => by omega⟩) ?_
  · rintro S ⟨h1, h2, h3, h4⟩
    rw [loop_spec_l17Reckon_1]
    simp only [bind_some', aBin_lss, cnd_dec, Int.lt_irrefl, if_false]
    have hr : reckM (namesM l) l ps kn = none := findSome_no fun j z hz => h4 j z (List.getElem?_eq_some_iff.1 hz).1 hz
    rw [hr]
    exact ⟨_, rfl, _, S, rfl, h1, h3⟩
  · rintro i S hi ⟨h1, h2, h3, h4⟩ ih
    obtain ⟨p, q1, _, q2⟩ := FS.get (st := S) h (List.getElem?_eq_getElem hi) .i64
    have hmem : l[i] ∈ l := List.getElem_mem hi
    obtain ⟨et, lt⟩ := ixN_of (flist_to hf hmem)
    have found : ∀ x q, stepAt (namesM l) ps kn l[i] = some (x, q) → reckM (namesM l) l ps kn = some (x, q) := fun x q hx => findSome_take (List.getElem?_eq_getElem hi) hx h4
    have z1 : ¬ 0 = S.m := by omega
    have z2 : ¬ 0 = S.m + 1 := by omega
    have z3 : ¬ 0 = S.m + 1 + 1 := by omega
    have nx : ∀ S' : St, stepAt (namesM l) ps kn l[i] = none → S'.H 0 = S.H 0 → S.m ≤ S'.m → S.n ≤ S'.n → Ok (L.loop [1, 2, 3, 9, 18, 19, 20] [8, 9] b_spec_l17Reckon_1 [vn, T, U, .ptr 0 n 0 0, vl, .int .i64 l.length, .int .i64 (i + 1 : Nat)] S') (rkQ n (reckM (namesM l) l ps kn)) := fun S' hs e1 e2 e3 => ih S' ⟨by omega, by omega, by rw [e1]; exact h3, fun j z hj hz => by
      by_cases e : j = i
      · subst e; rw [List.getElem?_eq_getElem hi] at hz; cases hz; exact hs
      · exact h4 j z (by omega) hz⟩
    have ret : ∀ (x : Nat) (q : Pos) (S' : St), stepAt (namesM l) ps kn l[i] = some (x, q) → S'.H 0 = S.H 0 → S.m ≤ S'.m → S.n ≤ S'.n →
        Ok ((aStore 3 (.ptr 0 n 0 0) (poseV q) S').bind fun vs => some (XT.ret, [AV.int .i64 (x : Int), .ptr 0 n 0 0], vs)) (rkQ n (reckM (namesM l) l ps kn)) := fun x q S' hs e1 e2 e3 => by
      obtain ⟨c1, c2⟩ := cell3 (S := S') (j := 0) (t := n) (p := pose0) (by rw [e1]; exact h3) q
      have hr := found x q hs
      rw [c1, hr]
      exact ⟨_, rfl, _, _, rfl, (by simp only [put_n]; omega), rfl, c2⟩
    have ik : ∀ x : Nat, x < (namesM l).length → aIaddr 1 U (.int .i64 (x : Int)) = some (.eptr [.bool (kb kn x)]) := fun x hx => hU.atE (by omega) .i64
    have ip : ∀ x : Nat, x < (namesM l).length → aIaddr 3 T (.int .i64 (x : Int)) = some (.eptr [.int .i64 (pa ps x).t, .int .i64 (pa ps x).x, .int .i64 (pa ps x).y]) := fun x hx => hT.atE (by omega) .i64
    have it := ik _ lt
    have jt := ip _ lt
    rw [loop_spec_l17Reckon_1]
    simp only [bind_some', aBin_lss, aBin_leq, aBin_gtr, aBin_geq, aBin_eql, aBin_neq, aBin_add, aBin_sub, aBin_mul, aBin_seql, aBin_sneq, aBinb_eql, aBinb_neq, aUn_not, aUn_neg, aSlen_str, extr0, extr1, extr2, q1, q2]
    refine Ok.cnd (fun _ => ?_) fun hf => absurd hf (by omega)
    simp only [facV, retV_one, retV_two, retV_three, mkNew_agg, mkNew_zc, ld_top, ld_old, ld_setN, sto_top, setN_setN, faddr_ptr, faddr_eptr, ld_eptr, new_m', new_n', setN_m', setN_n', st0_m', st0_n', put_m', put_n', AV.cells, AV.one, AV.stor, ldCells, setElem, splice, List.all_cons, List.all_nil, List.length_cons, List.length_nil, List.drop, List.take, List.head?_cons, List.getElem?_cons_zero, List.getElem?_cons_succ, List.set_cons_zero, List.nil_append, List.cons_append, List.append_nil, List.drop_zero, List.drop_succ_cons, List.drop_nil, List.take_zero, List.take_succ_cons, List.take_nil, cond_true, cond_false, Bool.and_self, Bool.and_true, and_self, and_true, true_and, if_true, bind_some', Nat.add_zero, Nat.zero_add, Nat.reduceAdd, Nat.reduceLeDiff, ne_eq, not_false_eq_true, Nat.add_eq_zero_iff, Nat.reduceEqDiff, one_ne_zero', zero_ne_one', nne1, nne2, nne3, Nat.add_right_cancel_iff, Nat.add_left_cancel_iff, Nat.le_refl, reduceCtorEq, bind_some', aBin_lss, aBin_leq, aBin_gtr, aBin_geq, aBin_eql, aBin_neq, aBin_add, aBin_sub, aBin_mul, aBin_seql, aBin_sneq, aBinb_eql, aBinb_neq, aUn_not, aUn_neg, aSlen_str, extr0, extr1, extr2]
    refine Ok.gives (l17Index_ok hn (by omega) l[i].to) (plain2 hn.plain (plain_str _)) fun m1 g1 => ?_
    have g1' : S.n + 1 ≤ m1 := g1
    by_cases hk1 : l[i].kind = 1
    · simp only [retV_one, retV_two, retV_three, mkNew_agg, mkNew_zc, ld_top, ld_old, ld_setN, sto_top, setN_setN, faddr_ptr, faddr_eptr, ld_eptr, new_m', new_n', setN_m', setN_n', st0_m', st0_n', put_m', put_n', AV.cells, AV.one, AV.stor, ldCells, setElem, splice, List.all_cons, List.all_nil, List.length_cons, List.length_nil, List.drop, List.take, List.head?_cons, List.getElem?_cons_zero, List.getElem?_cons_succ, List.set_cons_zero, List.nil_append, List.cons_append, List.append_nil, List.drop_zero, List.drop_succ_cons, List.drop_nil, List.take_zero, List.take_succ_cons, List.take_nil, cond_true, cond_false, Bool.and_self, Bool.and_true, and_self, and_true, true_and, if_true, bind_some', Nat.add_zero, Nat.zero_add, Nat.reduceAdd, Nat.reduceLeDiff, ne_eq, not_false_eq_true, Nat.add_eq_zero_iff, Nat.reduceEqDiff, one_ne_zero', zero_ne_one', nne1, nne2, nne3, Nat.add_right_cancel_iff, Nat.add_left_cancel_iff, Nat.le_refl, reduceCtorEq, bind_some', aBin_lss, aBin_leq, aBin_gtr, aBin_geq, aBin_eql, aBin_neq, aBin_add, aBin_sub, aBin_mul, aBin_seql, aBin_sneq, aBinb_eql, aBinb_neq, aUn_not, aUn_neg, aSlen_str, extr0, extr1, extr2, et, it, jt, z1, z2, z3]
      refine Ok.cnd (fun _ => ?_) fun h => absurd hk1 h
      refine Ok.cndnb (fun hb => ?_) fun hb => ?_
      · exact ret _ l[i].p _ (by simp [stepAt, hk1, hb]) (by simp only [St.setN, St.new, nbeq, z1, z2, z3, decide_false, cond_false]) (by simp only [new_m', setN_m']; omega) (by simp only [new_n', setN_n'] at *; omega)
      · refine Ok.cnd (fun _ => ?_) fun h => absurd h (by omega)
        rw [wrap_i (by omega)]
        exact nx _ (by simp [stepAt, hk1, hb]) (by simp only [St.setN, St.new, nbeq, z1, z2, z3, decide_false, cond_false]) (by simp only [new_m', setN_m']; omega) (by simp only [new_n', setN_n'] at *; omega)
    · by_cases hk2 : l[i].kind = 2
      · obtain ⟨ef, lf⟩ := ixN_of (flist_frm hf hmem hk1)
        have if_ := ik _ lf
        have jf := ip _ lf
        simp only [retV_one, retV_two, retV_three, mkNew_agg, mkNew_zc, ld_top, ld_old, ld_setN, sto_top, setN_setN, faddr_ptr, faddr_eptr, ld_eptr, new_m', new_n', setN_m', setN_n', st0_m', st0_n', put_m', put_n', AV.cells, AV.one, AV.stor, ldCells, setElem, splice, List.all_cons, List.all_nil, List.length_cons, List.length_nil, List.drop, List.take, List.head?_cons, List.getElem?_cons_zero, List.getElem?_cons_succ, List.set_cons_zero, List.nil_append, List.cons_append, List.append_nil, List.drop_zero, List.drop_succ_cons, List.drop_nil, List.take_zero, List.take_succ_cons, List.take_nil, cond_true, cond_false, Bool.and_self, Bool.and_true, and_self, and_true, true_and, if_true, bind_some', Nat.add_zero, Nat.zero_add, Nat.reduceAdd, Nat.reduceLeDiff, ne_eq, not_false_eq_true, Nat.add_eq_zero_iff, Nat.reduceEqDiff, one_ne_zero', zero_ne_one', nne1, nne2, nne3, Nat.add_right_cancel_iff, Nat.add_left_cancel_iff, Nat.le_refl, reduceCtorEq, bind_some', aBin_lss, aBin_leq, aBin_gtr, aBin_geq, aBin_eql, aBin_neq, aBin_add, aBin_sub, aBin_mul, aBin_seql, aBin_sneq, aBinb_eql, aBinb_neq, aUn_not, aUn_neg, aSlen_str, extr0, extr1, extr2, et, it, jt, if_, jf, z1, z2, z3]
        refine Ok.cnd (fun h => absurd h hk1) fun _ => ?_
        refine Ok.cnd (fun h => absurd hk2 h) fun _ => ?_
        refine Ok.gives (l17Index_ok hn (by omega) l[i].frm) (plain2 hn.plain (plain_str _)) fun m2 g2 => ?_
        have g2' : m1 ≤ m2 := g2
        simp only [retV_one, retV_two, retV_three, mkNew_agg, mkNew_zc, ld_top, ld_old, ld_setN, sto_top, setN_setN, faddr_ptr, faddr_eptr, ld_eptr, new_m', new_n', setN_m', setN_n', st0_m', st0_n', put_m', put_n', AV.cells, AV.one, AV.stor, ldCells, setElem, splice, List.all_cons, List.all_nil, List.length_cons, List.length_nil, List.drop, List.take, List.head?_cons, List.getElem?_cons_zero, List.getElem?_cons_succ, List.set_cons_zero, List.nil_append, List.cons_append, List.append_nil, List.drop_zero, List.drop_succ_cons, List.drop_nil, List.take_zero, List.take_succ_cons, List.take_nil, cond_true, cond_false, Bool.and_self, Bool.and_true, and_self, and_true, true_and, if_true, bind_some', Nat.add_zero, Nat.zero_add, Nat.reduceAdd, Nat.reduceLeDiff, ne_eq, not_false_eq_true, Nat.add_eq_zero_iff, Nat.reduceEqDiff, one_ne_zero', zero_ne_one', nne1, nne2, nne3, Nat.add_right_cancel_iff, Nat.add_left_cancel_iff, Nat.le_refl, reduceCtorEq, bind_some', aBin_lss, aBin_leq, aBin_gtr, aBin_geq, aBin_eql, aBin_neq, aBin_add, aBin_sub, aBin_mul, aBin_seql, aBin_sneq, aBinb_eql, aBinb_neq, aUn_not, aUn_neg, aSlen_str, extr0, extr1, extr2, ef, it, jt, if_, jf, z1, z2, z3]
        refine Ok.cndb (fun ha => ?_) fun ha => ?_
        · refine Ok.cndnb (fun hb => ?_) fun hb => ?_
          · refine Ok.gives (compose_spec (pa ps (ixN (namesM l) l[i].frm)) l[i].p) (pB rfl) fun m3 g3 => ?_
            simp only [poseV, retV_one, retV_two, retV_three, mkNew_agg, mkNew_zc, ld_top, ld_old, ld_setN, sto_top, setN_setN, faddr_ptr, faddr_eptr, ld_eptr, new_m', new_n', setN_m', setN_n', st0_m', st0_n', put_m', put_n', AV.cells, AV.one, AV.stor, ldCells, setElem, splice, List.all_cons, List.all_nil, List.length_cons, List.length_nil, List.drop, List.take, List.head?_cons, List.getElem?_cons_zero, List.getElem?_cons_succ, List.set_cons_zero, List.nil_append, List.cons_append, List.append_nil, List.drop_zero, List.drop_succ_cons, List.drop_nil, List.take_zero, List.take_succ_cons, List.take_nil, cond_true, cond_false, Bool.and_self, Bool.and_true, and_self, and_true, true_and, if_true, bind_some', Nat.add_zero, Nat.zero_add, Nat.reduceAdd, Nat.reduceLeDiff, ne_eq, not_false_eq_true, Nat.add_eq_zero_iff, Nat.reduceEqDiff, one_ne_zero', zero_ne_one', nne1, nne2, nne3, Nat.add_right_cancel_iff, Nat.add_left_cancel_iff, Nat.le_refl, reduceCtorEq, bind_some', aBin_lss, aBin_leq, aBin_gtr, aBin_geq, aBin_eql, aBin_neq, aBin_add, aBin_sub, aBin_mul, aBin_seql, aBin_sneq, aBinb_eql, aBinb_neq, aUn_not, aUn_neg, aSlen_str, extr0, extr1, extr2, et, ef, it, jt, if_, jf, z1, z2, z3]
            refine Ok.cndb (fun hc => ?_) fun hc => ?_
            · exact ret _ (compM (pa ps (ixN (namesM l) l[i].frm)) l[i].p).1 _ (by simp [stepAt, hk1, hk2, ha, hb, hc]) (by simp only [St.setN, St.new, nbeq, z1, z2, z3, decide_false, cond_false]) (by simp only [new_m', setN_m']; omega) (by simp only [new_n', setN_n'] at *; omega)
            · rw [ha]
              rw [wrap_i (by omega)]
              exact nx _ (by simp [stepAt, hk1, hk2, ha, hb, hc]) (by simp only [St.setN, St.new, nbeq, z1, z2, z3, decide_false, cond_false]) (by simp only [new_m', setN_m']; omega) (by simp only [new_n', setN_n'] at *; omega)
          · rw [ha]
            rw [wrap_i (by omega)]
            exact nx _ (by simp [stepAt, hk1, hk2, ha, hb]) (by simp only [St.setN, St.new, nbeq, z1, z2, z3, decide_false, cond_false]) (by simp only [new_m', setN_m']; omega) (by simp only [new_n', setN_n'] at *; omega)
        · refine Ok.cndnb (fun _ => ?_) fun h => by rw [ha] at h; cases h
          refine Ok.cndb (fun hb => ?_) fun hb => ?_
          · refine Ok.gives (Inverse_spec l[i].p) (pB rfl) fun m3 g3 => ?_
            simp only [poseV, retV_one, retV_two, retV_three, mkNew_agg, mkNew_zc, ld_top, ld_old, ld_setN, sto_top, setN_setN, faddr_ptr, faddr_eptr, ld_eptr, new_m', new_n', setN_m', setN_n', st0_m', st0_n', put_m', put_n', AV.cells, AV.one, AV.stor, ldCells, setElem, splice, List.all_cons, List.all_nil, List.length_cons, List.length_nil, List.drop, List.take, List.head?_cons, List.getElem?_cons_zero, List.getElem?_cons_succ, List.set_cons_zero, List.nil_append, List.cons_append, List.append_nil, List.drop_zero, List.drop_succ_cons, List.drop_nil, List.take_zero, List.take_succ_cons, List.take_nil, cond_true, cond_false, Bool.and_self, Bool.and_true, and_self, and_true, true_and, if_true, bind_some', Nat.add_zero, Nat.zero_add, Nat.reduceAdd, Nat.reduceLeDiff, ne_eq, not_false_eq_true, Nat.add_eq_zero_iff, Nat.reduceEqDiff, one_ne_zero', zero_ne_one', nne1, nne2, nne3, Nat.add_right_cancel_iff, Nat.add_left_cancel_iff, Nat.le_refl, reduceCtorEq, bind_some', aBin_lss, aBin_leq, aBin_gtr, aBin_geq, aBin_eql, aBin_neq, aBin_add, aBin_sub, aBin_mul, aBin_seql, aBin_sneq, aBinb_eql, aBinb_neq, aUn_not, aUn_neg, aSlen_str, extr0, extr1, extr2, et, ef, it, jt, if_, jf, z1, z2, z3]
            refine Ok.gives (compose_spec (pa ps (ixN (namesM l) l[i].to)) (invM l[i].p)) (pB rfl) fun m4 g4 => ?_
            simp only [poseV, retV_one, retV_two, retV_three, mkNew_agg, mkNew_zc, ld_top, ld_old, ld_setN, sto_top, setN_setN, faddr_ptr, faddr_eptr, ld_eptr, new_m', new_n', setN_m', setN_n', st0_m', st0_n', put_m', put_n', AV.cells, AV.one, AV.stor, ldCells, setElem, splice, List.all_cons, List.all_nil, List.length_cons, List.length_nil, List.drop, List.take, List.head?_cons, List.getElem?_cons_zero, List.getElem?_cons_succ, List.set_cons_zero, List.nil_append, List.cons_append, List.append_nil, List.drop_zero, List.drop_succ_cons, List.drop_nil, List.take_zero, List.take_succ_cons, List.take_nil, cond_true, cond_false, Bool.and_self, Bool.and_true, and_self, and_true, true_and, if_true, bind_some', Nat.add_zero, Nat.zero_add, Nat.reduceAdd, Nat.reduceLeDiff, ne_eq, not_false_eq_true, Nat.add_eq_zero_iff, Nat.reduceEqDiff, one_ne_zero', zero_ne_one', nne1, nne2, nne3, Nat.add_right_cancel_iff, Nat.add_left_cancel_iff, Nat.le_refl, reduceCtorEq, bind_some', aBin_lss, aBin_leq, aBin_gtr, aBin_geq, aBin_eql, aBin_neq, aBin_add, aBin_sub, aBin_mul, aBin_seql, aBin_sneq, aBinb_eql, aBinb_neq, aUn_not, aUn_neg, aSlen_str, extr0, extr1, extr2, et, ef, it, jt, if_, jf, z1, z2, z3]
            refine Ok.cndb (fun hc => ?_) fun hc => ?_
            · exact ret _ (compM (pa ps (ixN (namesM l) l[i].to)) (invM l[i].p)).1 _ (by simp [stepAt, hk1, hk2, ha, hb, hc]) (by simp only [St.setN, St.new, nbeq, z1, z2, z3, decide_false, cond_false]) (by simp only [new_m', setN_m']; omega) (by simp only [new_n', setN_n'] at *; omega)
            · rw [wrap_i (by omega)]
              exact nx _ (by simp [stepAt, hk1, hk2, ha, hb, hc]) (by simp only [St.setN, St.new, nbeq, z1, z2, z3, decide_false, cond_false]) (by simp only [new_m', setN_m']; omega) (by simp only [new_n', setN_n'] at *; omega)
          · rw [wrap_i (by omega)]
            exact nx _ (by simp [stepAt, hk1, hk2, ha, hb]) (by simp only [St.setN, St.new, nbeq, z1, z2, z3, decide_false, cond_false]) (by simp only [new_m', setN_m']; omega) (by simp only [new_n', setN_n'] at *; omega)
      · simp only [retV_one, retV_two, retV_three, mkNew_agg, mkNew_zc, ld_top, ld_old, ld_setN, sto_top, setN_setN, faddr_ptr, faddr_eptr, ld_eptr, new_m', new_n', setN_m', setN_n', st0_m', st0_n', put_m', put_n', AV.cells, AV.one, AV.stor, ldCells, setElem, splice, List.all_cons, List.all_nil, List.length_cons, List.length_nil, List.drop, List.take, List.head?_cons, List.getElem?_cons_zero, List.getElem?_cons_succ, List.set_cons_zero, List.nil_append, List.cons_append, List.append_nil, List.drop_zero, List.drop_succ_cons, List.drop_nil, List.take_zero, List.take_succ_cons, List.take_nil, cond_true, cond_false, Bool.and_self, Bool.and_true, and_self, and_true, true_and, if_true, bind_some', Nat.add_zero, Nat.zero_add, Nat.reduceAdd, Nat.reduceLeDiff, ne_eq, not_false_eq_true, Nat.add_eq_zero_iff, Nat.reduceEqDiff, one_ne_zero', zero_ne_one', nne1, nne2, nne3, Nat.add_right_cancel_iff, Nat.add_left_cancel_iff, Nat.le_refl, reduceCtorEq, bind_some', aBin_lss, aBin_leq, aBin_gtr, aBin_geq, aBin_eql, aBin_neq, aBin_add, aBin_sub, aBin_mul, aBin_seql, aBin_sneq, aBinb_eql, aBinb_neq, aUn_not, aUn_neg, aSlen_str, extr0, extr1, extr2, et, it, jt, z1, z2, z3]
        refine Ok.cnd (fun h => absurd h hk1) fun _ => ?_
        refine Ok.cnd (fun _ => ?_) fun h => absurd hk2 h
        rw [wrap_i (by omega)]
        exact nx _ (by simp [stepAt, hk1, hk2]) (by simp only [St.setN, St.new, nbeq, z1, z2, z3, decide_false, cond_false]) (by simp only [new_m', setN_m']; omega) (by simp only [new_n', setN_n'] at *; omega)
  · rintro _ ⟨v, st', rfl, hn', hQ⟩
    cases hr : reckM (namesM l) l ps kn with
    | none =>
      rw [hr] at hQ
      obtain ⟨c1, c2⟩ := cell3 hQ pose0
      rw [k_spec_l17Reckon_1_0]
      have c1' : aStore 3 (.ptr 0 n 0 0) zc_iii st' = _ := c1
      rw [c1']
      simp only [bind_some', c2, retV_one, retV_two, retV_three, mkNew_agg, mkNew_zc, ld_top, ld_old, ld_setN, sto_top, setN_setN, faddr_ptr, faddr_eptr, ld_eptr, new_m', new_n', setN_m', setN_n', st0_m', st0_n', put_m', put_n', AV.cells, AV.one, AV.stor, ldCells, setElem, splice, List.all_cons, List.all_nil, List.length_cons, List.length_nil, List.drop, List.take, List.head?_cons, List.getElem?_cons_zero, List.getElem?_cons_succ, List.set_cons_zero, List.nil_append, List.cons_append, List.append_nil, List.drop_zero, List.drop_succ_cons, List.drop_nil, List.take_zero, List.take_succ_cons, List.take_nil, cond_true, cond_false, Bool.and_self, Bool.and_true, and_self, and_true, true_and, if_true, bind_some', Nat.add_zero, Nat.zero_add, Nat.reduceAdd, Nat.reduceLeDiff, ne_eq, not_false_eq_true, Nat.add_eq_zero_iff, Nat.reduceEqDiff, one_ne_zero', zero_ne_one', nne1, nne2, nne3, Nat.add_right_cancel_iff, Nat.add_left_cancel_iff, Nat.le_refl, reduceCtorEq]
      exact Ok.ret rfl hn' rfl
    | some x =>
      rw [hr] at hQ
      obtain ⟨rfl, hl⟩ := hQ
      rw [k_spec_l17Reckon_1_ret]
      simp only [hl, retV_one, retV_two, retV_three, mkNew_agg, mkNew_zc, ld_top, ld_old, ld_setN, sto_top, setN_setN, faddr_ptr, faddr_eptr, ld_eptr, new_m', new_n', setN_m', setN_n', st0_m', st0_n', put_m', put_n', AV.cells, AV.one, AV.stor, ldCells, setElem, splice, List.all_cons, List.all_nil, List.length_cons, List.length_nil, List.drop, List.take, List.head?_cons, List.getElem?_cons_zero, List.getElem?_cons_succ, List.set_cons_zero, List.nil_append, List.cons_append, List.append_nil, List.drop_zero, List.drop_succ_cons, List.drop_nil, List.take_zero, List.take_succ_cons, List.take_nil, cond_true, cond_false, Bool.and_self, Bool.and_true, and_self, and_true, true_and, if_true, bind_some', Nat.add_zero, Nat.zero_add, Nat.reduceAdd, Nat.reduceLeDiff, ne_eq, not_false_eq_true, Nat.add_eq_zero_iff, Nat.reduceEqDiff, one_ne_zero', zero_ne_one', nne1, nne2, nne3, Nat.add_right_cancel_iff, Nat.add_left_cancel_iff, Nat.le_refl, reduceCtorEq]
      exact Ok.ret rfl hn' rfl

theorem l16Has_ok {v : AV} {l : List ByteArray} (h : SS v l) (hl : l.length ≤ 4294967296) (s : ByteArray) : Gives i_spec_l16Has [v, .str s] (.bool (hasS l s)) := by
  intro n
  rw [call_spec_l16Has, SlOf.len h, bind_some', hasS_fidx]
  refine Ok.bind (P := fun r => ∃ st', n ≤ st'.n ∧ ((r = (.exit 0, [.undef], st') ∧ fidx (fun x => decide (x = s)) l = -1) ∨ (r = (.ret, [.bool true], st') ∧ fidx (fun x => decide (x = s)) l ≠ -1)))
    (find_loop (p := fun x => decide (x = s)) (l := l) (n0 := n) (fun i st => L.loop [1, 7, 8, 9] [4] b_spec_l16Has_1 [.str s, v, .int .i64 l.length, .int .i64 i] st) l.length rfl ?_ ?_ (st0 n) (Nat.le_refl _)) ?_
  · intro st hn hf
    rw [loop_spec_l16Has_1]
    simp only [bind_some', aBin_lss, cnd_dec, Int.lt_irrefl, if_false]
    exact ⟨_, rfl, st, hn, .inl ⟨rfl, hf⟩⟩
  · intro i x st hx hn _ hno hyes
    have hi := (List.getElem?_eq_some_iff.1 hx).1
    obtain ⟨p, q1, q2⟩ := SS.get (st := st) h hx .i64
    rw [loop_spec_l16Has_1]
    simp only [bind_some', aBin_lss, aBin_leq, aBin_gtr, aBin_geq, aBin_eql, aBin_neq, aBin_add, aBin_sub, aBin_mul, aBin_seql, aBin_sneq, aBinb_eql, aBinb_neq, aUn_not, aUn_neg, aSlen_str, extr0, extr1, extr2, q1, q2]
    refine Ok.cnd (fun _ => ?_) fun hf => absurd hf (by omega)
    refine Ok.cnd (fun hp => ?_) fun hp => ?_
    · exact ⟨_, rfl, st, hn, .inr ⟨rfl, by rw [hyes (decide_eq_true hp)]; omega⟩⟩
    · rw [wrap64 (by omega) (by omega)]; exact hno (decide_eq_false hp) st hn
  · rintro _ ⟨st', hn, ⟨rfl, hf⟩ | ⟨rfl, hf⟩⟩
    · rw [k_spec_l16Has_1_0]; exact Ok.retb hn (by simp [hf])
    · rw [k_spec_l16Has_1_ret]; exact Ok.retb hn (by simp [hf])

theorem NamesOf_spec {v : AV} {l : List Fac} (h : FS v l) (hl : l.length ≤ 1048576) (n : Nat) : Ok (L.call i_spec_NamesOf [v] n) fun p => n ≤ p.2 ∧ SS p.1 (namesM l) ∧ New 1 n p.2 p.1 := by
  rw [call_spec_NamesOf, lit0_s, SlOf.len h, bind_some']
  refine Ok.bind (P := fun r => ∃ w st, r = (.exit 0, [.undef, w], st) ∧ AccS n st w (namesM l) ∧ n ≤ st.n)
    (Ok.loop (σ := AV × St) (Lp := fun i s => L.loop [3, 9, 10, 11] [2, 3] b_spec_NamesOf_1 [s.1, v, .int .i64 l.length, .int .i64 i] s.2) (I := fun i s => AccS n s.2 s.1 (namesM (l.take i)) ∧ n ≤ s.2.n) l.length ?_ ?_ l.length 0 (.lsl (st0 n).m (st0 n).n 1 0 0, (st0 n).new 1 []) (by omega) ⟨AccS.lit (Nat.le_refl _), Nat.le_succ _⟩) ?_
  · rintro ⟨w, st⟩ ⟨hA, hn⟩
    rw [loop_spec_NamesOf_1]
    simp only [bind_some', aBin_lss, cnd_dec, Int.lt_irrefl, if_false]
    rw [List.take_length] at hA
    exact ⟨_, rfl, w, st, rfl, hA, hn⟩
  · rintro i ⟨w, st⟩ hi ⟨hA, hn⟩ ih
    dsimp only at hA hn
    obtain ⟨p, q1, _, q2⟩ := FS.get (st := st) h (List.getElem?_eq_getElem hi) .i64
    have hnl := names_length (l.take i)
    have hstep := names_take l i l[i] (List.getElem?_eq_getElem hi)
    rw [List.length_take] at hnl
    have a1 := nmAdd_length (namesM (l.take i)) l[i].frm
    rw [loop_spec_NamesOf_1]
    simp only [bind_some', aBin_lss, aBin_leq, aBin_gtr, aBin_geq, aBin_eql, aBin_neq, aBin_add, aBin_sub, aBin_mul, aBin_seql, aBin_sneq, aBinb_eql, aBinb_neq, aUn_not, aUn_neg, aSlen_str, extr0, extr1, extr2, q1, q2]
    refine Ok.cnd (fun _ => ?_) fun hf => absurd hf (by omega)
    simp only [facV, mkLit, mkSlice, List.replicate, retV_one, retV_two, retV_three, mkNew_agg, mkNew_zc, ld_top, ld_old, ld_setN, sto_top, sto_old, sto_setN, faddr_ptr, faddr_eptr, ld_eptr, new_m', new_n', setN_m', setN_n', st0_m', st0_n', put_m', put_n', AV.cells, AV.one, AV.stor, ldCells, setElem, splice, List.all_cons, List.all_nil, List.length_cons, List.length_nil, List.drop, List.take, List.head?_cons, List.getElem?_cons_zero, List.getElem?_cons_succ, List.set_cons_zero, List.nil_append, List.cons_append, List.append_nil, List.drop_zero, List.drop_succ_cons, List.drop_nil, List.take_zero, List.take_succ_cons, List.take_nil, cond_true, cond_false, Bool.and_self, Bool.and_true, and_self, and_true, true_and, if_true, bind_some', Nat.add_zero, Nat.zero_add, Nat.reduceAdd, Nat.reduceLeDiff, ne_eq, not_false_eq_true, Nat.add_eq_zero_iff, Nat.reduceEqDiff, one_ne_zero', zero_ne_one', nne1, nne2, nne3, Nat.add_right_cancel_iff, Nat.add_left_cancel_iff, Nat.le_refl, reduceCtorEq]
    simp only [Nat.reduceLT, if_true, bind_some', List.length_replicate, List.length_cons, List.length_nil, List.set_cons_succ, List.set_cons_zero, aLen, retV_one, retV_two, retV_three, mkNew_agg, mkNew_zc, ld_top, ld_old, ld_setN, sto_top, sto_old, sto_setN, faddr_ptr, faddr_eptr, ld_eptr, new_m', new_n', setN_m', setN_n', st0_m', st0_n', put_m', put_n', AV.cells, AV.one, AV.stor, ldCells, setElem, splice, List.all_cons, List.all_nil, List.length_cons, List.length_nil, List.drop, List.take, List.head?_cons, List.getElem?_cons_zero, List.getElem?_cons_succ, List.set_cons_zero, List.nil_append, List.cons_append, List.append_nil, List.drop_zero, List.drop_succ_cons, List.drop_nil, List.take_zero, List.take_succ_cons, List.take_nil, cond_true, cond_false, Bool.and_self, Bool.and_true, and_self, and_true, true_and, if_true, bind_some', Nat.add_zero, Nat.zero_add, Nat.reduceAdd, Nat.reduceLeDiff, ne_eq, not_false_eq_true, Nat.add_eq_zero_iff, Nat.reduceEqDiff, one_ne_zero', zero_ne_one', nne1, nne2, nne3, Nat.add_right_cancel_iff, Nat.add_left_cancel_iff, Nat.le_refl, reduceCtorEq]
    have hS : ∀ (S : St), S = ((st.new 8 [facV l[i]]).new 1 [.str l[i].frm, .str l[i].to]) → Ok ((L.loop [3, 9, 10, 11, 19, 20, 21] [2, 3, 9, 10, 11] b_spec_NamesOf_2 [w, v, .int .i64 l.length, .int .i64 i, .lsl (st.m + 1) (st.n + 1) 1 0 2, .int .i64 ((2 : Nat) : Int), .int .i64 0] S).bind k_spec_NamesOf_2)
        (fun r => ∃ w st, r = (.exit 0, [.undef, w], st) ∧ AccS n st w (namesM l) ∧ n ≤ st.n) := by
      intro S hS
      have hj : S.H (st.m + 1) = some ⟨st.n + 1, 1, [.str l[i].frm, .str l[i].to]⟩ := by rw [hS]; exact new_H _ _ _
      refine Ok.bind (P := fun r => ∃ w1 st1, r = (.exit 2, [.undef, w1, v, .int .i64 l.length, .int .i64 i], st1) ∧ AccS n st1 w1 (nmStep (namesM (l.take i)) l[i]) ∧ n ≤ st1.n)
        (Ok.loop (σ := AV × St) (Lp := fun k s => L.loop [3, 9, 10, 11, 19, 20, 21] [2, 3, 9, 10, 11] b_spec_NamesOf_2 [s.1, v, .int .i64 l.length, .int .i64 i, .lsl (st.m + 1) (st.n + 1) 1 0 2, .int .i64 ((2 : Nat) : Int), .int .i64 k] s.2)
          (I := fun k s => AccS n s.2 s.1 (([l[i].frm, l[i].to].take k).foldl nmAdd (namesM (l.take i))) ∧ n ≤ s.2.n ∧ s.2.H (st.m + 1) = some ⟨st.n + 1, 1, [.str l[i].frm, .str l[i].to]⟩ ∧ st.m + 1 < s.2.m ∧ ¬ isAt s.1 (st.m + 1)) 2 ?_ ?_ 2 0 (w, S) (by omega) ?_) ?_
      · rintro ⟨w1, st1⟩ ⟨k1, k2, k3, k4, k5⟩
        rw [loop_spec_NamesOf_2]
        simp only [bind_some', aBin_lss, cnd_dec, Int.lt_irrefl, if_false]
        exact ⟨_, rfl, w1, st1, rfl, k1, k2⟩
      · rintro k ⟨w1, st1⟩ hk ⟨k1, k2, k3, k4, k5⟩ ih2
        dsimp only at k1 k2 k3 k4 k5
        obtain ⟨s, hs1, hs2⟩ : ∃ s, [l[i].frm, l[i].to][k]? = some s ∧ [AV.str l[i].frm, .str l[i].to][k]? = some (.str s) := by
          match k, hk with
          | 0, _ => exact ⟨_, rfl, rfl⟩
          | 1, _ => exact ⟨_, rfl, rfl⟩
        have hfold : ([l[i].frm, l[i].to].take (k + 1)).foldl nmAdd (namesM (l.take i)) = nmAdd (([l[i].frm, l[i].to].take k).foldl nmAdd (namesM (l.take i))) s := by
          rw [List.take_add_one, hs1]; simp
        have hlen : (([l[i].frm, l[i].to].take k).foldl nmAdd (namesM (l.take i))).length ≤ 4294967 := by
          match k, hk with
          | 0, _ => simp; omega
          | 1, _ => simp; omega
        have hp : aIaddr 1 (.lsl (st.m + 1) (st.n + 1) 1 0 2) (.int .i64 (k : Int)) = some (.ptr (st.m + 1) (st.n + 1) k 0) := iaddr_lsl hk
        have hld : aLoad false 1 st1 (.ptr (st.m + 1) (st.n + 1) k 0) = some (.str s) := by simp [aLoad, get_H k3, hs2, AV.cells, ldCells]
        have fin : ∀ w' st', AccS n st' w' (nmAdd (([l[i].frm, l[i].to].take k).foldl nmAdd (namesM (l.take i))) s) → n ≤ st'.n → st'.H (st.m + 1) = some ⟨st.n + 1, 1, [.str l[i].frm, .str l[i].to]⟩ → st.m + 1 < st'.m → ¬ isAt w' (st.m + 1) → Ok _ _ :=
          fun w' st' h1 h2 h3 h4 h5 => ih2 (w', st') ⟨by rw [hfold]; exact h1, h2, h3, h4, h5⟩
        rw [loop_spec_NamesOf_2]
        simp only [bind_some', aBin_lss, aBin_leq, aBin_gtr, aBin_geq, aBin_eql, aBin_neq, aBin_add, aBin_sub, aBin_mul, aBin_seql, aBin_sneq, aBinb_eql, aBinb_neq, aUn_not, aUn_neg, aSlen_str, extr0, extr1, extr2, hp, hld]
        refine Ok.cnd (fun _ => ?_) fun hf => absurd hf (by omega)
        rw [wrap64 (x := (k : Int) + 1) (by omega) (by omega)]
        refine Ok.cnd (fun he => ?_) fun he => ?_
        · obtain ⟨T, _, t2, t3, _⟩ := k1.fin
          refine Ok.givesL (l16Has_ok t3 (by omega) s) (mapO2 t2 rfl) (reloc_bool · _) fun m hm => ?_
          simp only [aUn_not, bind_some']
          refine Ok.cndnb (fun hb => ?_) fun hb => ?_
          · refine Ok.pushS (k1.setN hm) (Nat.le_trans k2 hm) (by omega) fun w2 st2 g1 g2 g3 g4 g5 => fin w2 st2 ?_ (Nat.le_trans k2 (Nat.le_trans hm g3)) ?_ (Nat.lt_of_lt_of_le k4 g2) ?_
            · rw [nmAdd, if_neg he, if_neg (by rw [hb]; exact Bool.false_ne_true)]; exact g1
            · rw [g4 _ k4 k5]; exact k3
            · intro hq
              rcases g5 _ hq with h | h
              · exact k5 h
              · have : st1.m ≤ st.m + 1 := h; omega
          · exact fin w1 _ (by rw [nmAdd, if_neg he, if_pos hb]; exact k1.setN hm) (Nat.le_trans k2 hm) k3 k4 k5
        · exact fin w1 _ (by rw [nmAdd, if_pos (Decidable.not_not.1 he)]; exact k1) k2 k3 k4 k5
      · refine ⟨by rw [hS]; exact hA.new.new, by rw [hS]; exact Nat.le_trans hn (by rw [new_n, new_n]; omega), hj, by rw [hS, new_m, new_m]; omega, fun hq => by have := hA.lt hq; omega⟩
      · rintro _ ⟨w1, st1, rfl, k1, k2⟩
        rw [k_spec_NamesOf_2_2]
        simp only [aBin_add, bind_some']
        rw [wrap64 (by omega) (by omega)]
        exact ih (w1, st1) ⟨by rw [hstep]; exact k1, k2⟩
    exact hS _ rfl
  · rintro _ ⟨w, st, rfl, hA, hn⟩
    obtain ⟨T, t1, _, t2, t3⟩ := hA.fin
    rw [k_spec_NamesOf_1_0, t1]
    exact ⟨_, rfl, hn, t2, t3⟩

theorem IsName_spec_call (b : ByteArray) (hb : b.size ≤ 9223372036854775807) (n : Nat) : L.call i_spec_IsName [.str b] n = some (.bool (nameM b), n) := by
  rw [call_spec_IsName]
  have A := loop_all (fun i => L.loop [0, 3] [0, 2] b_spec_IsName_1 [.str b, .int .i64 i] (st0 n)) (nameAt b) b.size (.exit 0, [.str b, .undef], st0 n) (.ret, [.str b, .bool false], st0 n)
    (by
      rw [loop_spec_IsName_1]
      simp only [aSlen_str, bind_some', aBin_lss, cnd_dec, Int.lt_irrefl, if_false])
    (fun i hi => by
      rw [loop_spec_IsName_1]
      simp only [aSlen_str, bind_some', aBin_lss, aBin_geq, aBin_gtr, aBin_leq, aBin_eql, aBin_add, aUn_not, cnd_dec, cnd_ndec, aSidx_str hi]
      rw [if_pos (by omega), wrap64 (by omega) (by omega)]
      simp only [nameAt, byteAt_lt hi, cnd]
      generalize (b[i]).toNat = c
      simp only [decide_eq_true_eq, Bool.not_false]
      repeat' split
      all_goals first | rfl | omega)
    b.size 0 (by omega)
  rw [show ((0 : Nat) : Int) = 0 from rfl] at A
  rw [A]
  by_cases hA : allF (nameAt b) 0 b.size = true
  · rw [if_pos hA, bind_some', k_spec_IsName_1_0]
    simp only [aSlen_str, bind_some']
    rw [call_same (plain3 (plain_int _ _) (plain_int _ _) (plain_int _ _)) (l01In_call _ _ _ _)]
    simp only [nameM, hA, resTup_bool, bind_some', n_st0, Bool.and_true]
    congr 4
    simp only [eq_iff_iff]; omega
  · rw [if_neg hA, bind_some', k_spec_IsName_1_ret]
    simp only [nameM, hA, resTup_bool, bind_some', n_st0, Bool.and_false]

theorem IsPoseName_spec_call (b : ByteArray) (hb : b.size ≤ 9223372036854775807) (n : Nat) : L.call i_spec_IsPoseName [.str b] n = some (.bool (poseNameM b), n) := by
  rw [call_spec_IsPoseName, call_same (plain1 (plain_str _)) (IsName_spec_call b hb _)]
  simp only [bind_some', cnd_bool]
  by_cases hn : nameM b = true
  · have h0 : 0 < b.size := by
      simp only [nameM, Bool.and_eq_true, decide_eq_true_iff] at hn; omega
    have e := aSidx_str (k := .i64) h0
    rw [show ((0 : Nat) : Int) = 0 from rfl] at e
    rw [if_pos hn, e]
    simp only [bind_some', aBin_eql, resTup_bool, n_st0, poseNameM, hn, byteAt_lt h0, Bool.true_and]
    congr 4
    simp only [eq_iff_iff]; omega
  · rw [if_neg hn]
    simp only [bind_some', resTup_bool, n_st0, poseNameM, hn, Bool.false_and]
theorem cl_spec_IsPoseName (b : ByteArray) (hb : b.size ≤ 9223372036854775807) (st : St) : clV L i_spec_IsPoseName 0 [.str b] st = some (.bool (poseNameM b), st) :=
  call_same (plain1 (plain_str _)) (IsPoseName_spec_call b hb _)

theorem IsLandmarkName_spec_call (b : ByteArray) (hb : b.size ≤ 9223372036854775807) (n : Nat) : L.call i_spec_IsLandmarkName [.str b] n = some (.bool (landNameM b), n) := by
  rw [call_spec_IsLandmarkName, call_same (plain1 (plain_str _)) (IsName_spec_call b hb _)]
  simp only [bind_some', cnd_bool]
  by_cases hn : nameM b = true
  · have h0 : 0 < b.size := by
      simp only [nameM, Bool.and_eq_true, decide_eq_true_iff] at hn; omega
    have e := aSidx_str (k := .i64) h0
    rw [show ((0 : Nat) : Int) = 0 from rfl] at e
    rw [if_pos hn, e]
    simp only [bind_some', aBin_eql, resTup_bool, n_st0, landNameM, hn, byteAt_lt h0, Bool.true_and]
    congr 4
    simp only [eq_iff_iff]; omega
  · rw [if_neg hn]
    simp only [bind_some', resTup_bool, n_st0, landNameM, hn, Bool.false_and]
theorem cl_spec_IsLandmarkName (b : ByteArray) (hb : b.size ≤ 9223372036854775807) (st : St) : clV L i_spec_IsLandmarkName 0 [.str b] st = some (.bool (landNameM b), st) :=
  call_same (plain1 (plain_str _)) (IsLandmarkName_spec_call b hb _)

theorem IsPoseName_g_spec (b : ByteArray) (hb : b.size ≤ 1048576) : Gives i_spec_IsPoseName [.str b] (.bool (poseNameM b)) := Gives.of (IsPoseName_spec_call b (by omega))
theorem IsLandmarkName_g_spec (b : ByteArray) (hb : b.size ≤ 1048576) : Gives i_spec_IsLandmarkName [.str b] (.bool (landNameM b)) := Gives.of (IsLandmarkName_spec_call b (by omega))
theorem IsValidFactor_spec (f : Fac) (hf : f.frm.size ≤ 1048576) (ht : f.to.size ≤ 1048576) : Gives i_spec_IsValidFactor [facV f] (.bool (facOk f)) := by
  intro n
  rw [call_spec_IsValidFactor]
  simp only [facV, retV_one, retV_two, retV_three, mkNew_agg, mkNew_zc, ld_top, ld_old, ld_setN, sto_top, sto_old, sto_setN, faddr_ptr, faddr_eptr, ld_eptr, new_m', new_n', setN_m', setN_n', st0_m', st0_n', put_m', put_n', AV.cells, AV.one, AV.stor, ldCells, setElem, splice, List.all_cons, List.all_nil, List.length_cons, List.length_nil, List.drop, List.take, List.head?_cons, List.getElem?_cons_zero, List.getElem?_cons_succ, List.set_cons_zero, List.nil_append, List.cons_append, List.append_nil, List.drop_zero, List.drop_succ_cons, List.drop_nil, List.take_zero, List.take_succ_cons, List.take_nil, cond_true, cond_false, Bool.and_self, Bool.and_true, and_self, and_true, true_and, if_true, bind_some', Nat.add_zero, Nat.zero_add, Nat.reduceAdd, Nat.reduceLeDiff, ne_eq, not_false_eq_true, Nat.add_eq_zero_iff, Nat.reduceEqDiff, one_ne_zero', zero_ne_one', nne1, nne2, nne3, Nat.add_right_cancel_iff, Nat.add_left_cancel_iff, Nat.le_refl, reduceCtorEq, bind_some', aBin_lss, aBin_leq, aBin_gtr, aBin_geq, aBin_eql, aBin_neq, aBin_add, aBin_sub, aBin_mul, aBin_seql, aBin_sneq, aBinb_eql, aBinb_neq, aUn_not, aUn_neg, aSlen_str, extr0, extr1, extr2]
  repeat' first
    | (refine Ok.cnd (fun h => ?_) fun h => ?_) | (refine Ok.cndn (fun h => ?_) fun h => ?_) | (refine Ok.cndb (fun h => ?_) fun h => ?_) | (refine Ok.cndnb (fun h => ?_) fun h => ?_)
    | (refine Ok.gives (IsValidPose_spec f.p) (pB rfl) fun m hm => ?_; (simp only [retV_one, retV_two, retV_three, mkNew_agg, mkNew_zc, ld_top, ld_old, ld_setN, sto_top, sto_old, sto_setN, faddr_ptr, faddr_eptr, ld_eptr, new_m', new_n', setN_m', setN_n', st0_m', st0_n', put_m', put_n', AV.cells, AV.one, AV.stor, ldCells, setElem, splice, List.all_cons, List.all_nil, List.length_cons, List.length_nil, List.drop, List.take, List.head?_cons, List.getElem?_cons_zero, List.getElem?_cons_succ, List.set_cons_zero, List.nil_append, List.cons_append, List.append_nil, List.drop_zero, List.drop_succ_cons, List.drop_nil, List.take_zero, List.take_succ_cons, List.take_nil, cond_true, cond_false, Bool.and_self, Bool.and_true, and_self, and_true, true_and, if_true, bind_some', Nat.add_zero, Nat.zero_add, Nat.reduceAdd, Nat.reduceLeDiff, ne_eq, not_false_eq_true, Nat.add_eq_zero_iff, Nat.reduceEqDiff, one_ne_zero', zero_ne_one', nne1, nne2, nne3, Nat.add_right_cancel_iff, Nat.add_left_cancel_iff, Nat.le_refl, reduceCtorEq, bind_some', aBin_lss, aBin_leq, aBin_gtr, aBin_geq, aBin_eql, aBin_neq, aBin_add, aBin_sub, aBin_mul, aBin_seql, aBin_sneq, aBinb_eql, aBinb_neq, aUn_not, aUn_neg, aSlen_str, extr0, extr1, extr2]))
    | (refine Ok.gives (IsPoseName_g_spec _ hf) (pB rfl) fun m hm => ?_; (simp only [retV_one, retV_two, retV_three, mkNew_agg, mkNew_zc, ld_top, ld_old, ld_setN, sto_top, sto_old, sto_setN, faddr_ptr, faddr_eptr, ld_eptr, new_m', new_n', setN_m', setN_n', st0_m', st0_n', put_m', put_n', AV.cells, AV.one, AV.stor, ldCells, setElem, splice, List.all_cons, List.all_nil, List.length_cons, List.length_nil, List.drop, List.take, List.head?_cons, List.getElem?_cons_zero, List.getElem?_cons_succ, List.set_cons_zero, List.nil_append, List.cons_append, List.append_nil, List.drop_zero, List.drop_succ_cons, List.drop_nil, List.take_zero, List.take_succ_cons, List.take_nil, cond_true, cond_false, Bool.and_self, Bool.and_true, and_self, and_true, true_and, if_true, bind_some', Nat.add_zero, Nat.zero_add, Nat.reduceAdd, Nat.reduceLeDiff, ne_eq, not_false_eq_true, Nat.add_eq_zero_iff, Nat.reduceEqDiff, one_ne_zero', zero_ne_one', nne1, nne2, nne3, Nat.add_right_cancel_iff, Nat.add_left_cancel_iff, Nat.le_refl, reduceCtorEq, bind_some', aBin_lss, aBin_leq, aBin_gtr, aBin_geq, aBin_eql, aBin_neq, aBin_add, aBin_sub, aBin_mul, aBin_seql, aBin_sneq, aBinb_eql, aBinb_neq, aUn_not, aUn_neg, aSlen_str, extr0, extr1, extr2]))
    | (refine Ok.gives (IsPoseName_g_spec _ ht) (pB rfl) fun m hm => ?_; (simp only [retV_one, retV_two, retV_three, mkNew_agg, mkNew_zc, ld_top, ld_old, ld_setN, sto_top, sto_old, sto_setN, faddr_ptr, faddr_eptr, ld_eptr, new_m', new_n', setN_m', setN_n', st0_m', st0_n', put_m', put_n', AV.cells, AV.one, AV.stor, ldCells, setElem, splice, List.all_cons, List.all_nil, List.length_cons, List.length_nil, List.drop, List.take, List.head?_cons, List.getElem?_cons_zero, List.getElem?_cons_succ, List.set_cons_zero, List.nil_append, List.cons_append, List.append_nil, List.drop_zero, List.drop_succ_cons, List.drop_nil, List.take_zero, List.take_succ_cons, List.take_nil, cond_true, cond_false, Bool.and_self, Bool.and_true, and_self, and_true, true_and, if_true, bind_some', Nat.add_zero, Nat.zero_add, Nat.reduceAdd, Nat.reduceLeDiff, ne_eq, not_false_eq_true, Nat.add_eq_zero_iff, Nat.reduceEqDiff, one_ne_zero', zero_ne_one', nne1, nne2, nne3, Nat.add_right_cancel_iff, Nat.add_left_cancel_iff, Nat.le_refl, reduceCtorEq, bind_some', aBin_lss, aBin_leq, aBin_gtr, aBin_geq, aBin_eql, aBin_neq, aBin_add, aBin_sub, aBin_mul, aBin_seql, aBin_sneq, aBinb_eql, aBinb_neq, aUn_not, aUn_neg, aSlen_str, extr0, extr1, extr2]))
    | (refine Ok.gives (IsLandmarkName_g_spec _ ht) (pB rfl) fun m hm => ?_; (simp only [retV_one, retV_two, retV_three, mkNew_agg, mkNew_zc, ld_top, ld_old, ld_setN, sto_top, sto_old, sto_setN, faddr_ptr, faddr_eptr, ld_eptr, new_m', new_n', setN_m', setN_n', st0_m', st0_n', put_m', put_n', AV.cells, AV.one, AV.stor, ldCells, setElem, splice, List.all_cons, List.all_nil, List.length_cons, List.length_nil, List.drop, List.take, List.head?_cons, List.getElem?_cons_zero, List.getElem?_cons_succ, List.set_cons_zero, List.nil_append, List.cons_append, List.append_nil, List.drop_zero, List.drop_succ_cons, List.drop_nil, List.take_zero, List.take_succ_cons, List.take_nil, cond_true, cond_false, Bool.and_self, Bool.and_true, and_self, and_true, true_and, if_true, bind_some', Nat.add_zero, Nat.zero_add, Nat.reduceAdd, Nat.reduceLeDiff, ne_eq, not_false_eq_true, Nat.add_eq_zero_iff, Nat.reduceEqDiff, one_ne_zero', zero_ne_one', nne1, nne2, nne3, Nat.add_right_cancel_iff, Nat.add_left_cancel_iff, Nat.le_refl, reduceCtorEq, bind_some', aBin_lss, aBin_leq, aBin_gtr, aBin_geq, aBin_eql, aBin_neq, aBin_add, aBin_sub, aBin_mul, aBin_seql, aBin_sneq, aBinb_eql, aBinb_neq, aUn_not, aUn_neg, aSlen_str, extr0, extr1, extr2]))
    | (refine Ok.gives (l01In_g _ _ _) (pB rfl) fun m hm => ?_; (simp only [retV_one, retV_two, retV_three, mkNew_agg, mkNew_zc, ld_top, ld_old, ld_setN, sto_top, sto_old, sto_setN, faddr_ptr, faddr_eptr, ld_eptr, new_m', new_n', setN_m', setN_n', st0_m', st0_n', put_m', put_n', AV.cells, AV.one, AV.stor, ldCells, setElem, splice, List.all_cons, List.all_nil, List.length_cons, List.length_nil, List.drop, List.take, List.head?_cons, List.getElem?_cons_zero, List.getElem?_cons_succ, List.set_cons_zero, List.nil_append, List.cons_append, List.append_nil, List.drop_zero, List.drop_succ_cons, List.drop_nil, List.take_zero, List.take_succ_cons, List.take_nil, cond_true, cond_false, Bool.and_self, Bool.and_true, and_self, and_true, true_and, if_true, bind_some', Nat.add_zero, Nat.zero_add, Nat.reduceAdd, Nat.reduceLeDiff, ne_eq, not_false_eq_true, Nat.add_eq_zero_iff, Nat.reduceEqDiff, one_ne_zero', zero_ne_one', nne1, nne2, nne3, Nat.add_right_cancel_iff, Nat.add_left_cancel_iff, Nat.le_refl, reduceCtorEq, bind_some', aBin_lss, aBin_leq, aBin_gtr, aBin_geq, aBin_eql, aBin_neq, aBin_add, aBin_sub, aBin_mul, aBin_seql, aBin_sneq, aBinb_eql, aBinb_neq, aUn_not, aUn_neg, aSlen_str, extr0, extr1, extr2]))
  all_goals refine Ok.retb (by (try simp only [new_n', setN_n', st0_n', put_n'] at *); first | omega | exact Nat.le_succ _ | exact Nat.le_refl _) ?_
  all_goals grind [facOk, poseOk]

theorem IsFactorList_spec {v : AV} {l : List Fac} (h : FS v l) (s : sm_FactorS l) : Gives i_spec_IsFactorList [v] (.bool (flistM l)) := by
  intro n
  rw [call_spec_IsFactorList]
  have hl := s.1
  simp only [SlOf.len h, bind_some']
  refine Ok.bind (P := fun r => ∃ st, n ≤ st.n ∧ ((r = (.exit 0, [v, .undef], st) ∧ allF (facAt l) 0 l.length = true) ∨ (r = (.ret, [v, .bool false], st) ∧ allF (facAt l) 0 l.length = false)))
    (Ok.loop (σ := St) (Lp := fun i st => L.loop [0, 5, 6, 7] [0, 2] b_spec_IsFactorList_1 [v, v, .int .i64 l.length, .int .i64 i] st) (I := fun i st => n ≤ st.n ∧ allF (facAt l) 0 i = true) l.length ?_ ?_ l.length 0 (st0 n) (by omega) ⟨Nat.le_refl _, rfl⟩) ?_
  · rintro st ⟨hn, hA⟩
    rw [loop_spec_IsFactorList_1]
    simp only [bind_some', aBin_lss, cnd_dec, Int.lt_irrefl, if_false]
    exact ⟨_, rfl, st, hn, .inl ⟨rfl, hA⟩⟩
  · rintro i st hi ⟨hn, hA⟩ ih
    obtain ⟨p, q1, _, q2⟩ := FS.get (st := st) h (List.getElem?_eq_getElem hi) .i64
    have hf := s.2 l[i] (List.getElem_mem hi)
    have bad : facAt l i = false → allF (facAt l) 0 l.length = false := fun hb => by
      rw [← Bool.not_eq_true]; intro hx
      have := allF_iff.1 hx i (Nat.zero_le _) (by omega)
      rw [hb] at this; exact Bool.false_ne_true this
    have good : facAt l i = true → allF (facAt l) 0 (i + 1) = true := fun hb => by
      rw [allF_iff]; intro j _ hj
      by_cases e : j = i
      · subst e; exact hb
      · exact allF_iff.1 hA j (Nat.zero_le _) (by omega)
    rw [loop_spec_IsFactorList_1]
    simp only [bind_some', aBin_lss, aBin_leq, aBin_gtr, aBin_geq, aBin_eql, aBin_neq, aBin_add, aBin_sub, aBin_mul, aBin_seql, aBin_sneq, aBinb_eql, aBinb_neq, aUn_not, aUn_neg, aSlen_str, extr0, extr1, extr2, q1, q2]
    refine Ok.cnd (fun _ => ?_) fun hf => absurd hf (by omega)
    simp only [facV, retV_one, retV_two, retV_three, mkNew_agg, mkNew_zc, ld_top, ld_old, ld_setN, sto_top, sto_old, sto_setN, faddr_ptr, faddr_eptr, ld_eptr, new_m', new_n', setN_m', setN_n', st0_m', st0_n', put_m', put_n', AV.cells, AV.one, AV.stor, ldCells, setElem, splice, List.all_cons, List.all_nil, List.length_cons, List.length_nil, List.drop, List.take, List.head?_cons, List.getElem?_cons_zero, List.getElem?_cons_succ, List.set_cons_zero, List.nil_append, List.cons_append, List.append_nil, List.drop_zero, List.drop_succ_cons, List.drop_nil, List.take_zero, List.take_succ_cons, List.take_nil, cond_true, cond_false, Bool.and_self, Bool.and_true, and_self, and_true, true_and, if_true, bind_some', Nat.add_zero, Nat.zero_add, Nat.reduceAdd, Nat.reduceLeDiff, ne_eq, not_false_eq_true, Nat.add_eq_zero_iff, Nat.reduceEqDiff, one_ne_zero', zero_ne_one', nne1, nne2, nne3, Nat.add_right_cancel_iff, Nat.add_left_cancel_iff, Nat.le_refl, reduceCtorEq, bind_some', aBin_lss, aBin_leq, aBin_gtr, aBin_geq, aBin_eql, aBin_neq, aBin_add, aBin_sub, aBin_mul, aBin_seql, aBin_sneq, aBinb_eql, aBinb_neq, aUn_not, aUn_neg, aSlen_str, extr0, extr1, extr2]
    refine Ok.gives (IsValidFactor_spec l[i] hf.2.2.1 hf.2.2.2.1) (pB rfl) fun m hm => ?_
    have hm' : st.n + 1 ≤ m := hm
    simp only [aUn_not, bind_some']
    refine Ok.cndnb (fun hv => ?_) fun hv => ?_
    · exact ⟨_, rfl, _, (show n ≤ m by omega), .inr ⟨rfl, bad (by simp [facAt, List.getElem?_eq_getElem hi, hv])⟩⟩
    refine Ok.cnd (fun h0 => ?_) fun h0 => ?_
    · have e1 : (i : Int) - 1 = ((i - 1 : Nat) : Int) := by omega
      obtain ⟨p2, r1, r2, _⟩ := FS.get (st := st) h (List.getElem?_eq_getElem (by omega : i - 1 < l.length)) .i64
      rw [wrap_i (x := (i : Int) - 1) (by omega), wrap_i (x := (i : Int) + 1) (by omega), e1, r1]
      simp only [r2, facV, retV_one, retV_two, retV_three, mkNew_agg, mkNew_zc, ld_top, ld_old, ld_setN, sto_top, sto_old, sto_setN, faddr_ptr, faddr_eptr, ld_eptr, new_m', new_n', setN_m', setN_n', st0_m', st0_n', put_m', put_n', AV.cells, AV.one, AV.stor, ldCells, setElem, splice, List.all_cons, List.all_nil, List.length_cons, List.length_nil, List.drop, List.take, List.head?_cons, List.getElem?_cons_zero, List.getElem?_cons_succ, List.set_cons_zero, List.nil_append, List.cons_append, List.append_nil, List.drop_zero, List.drop_succ_cons, List.drop_nil, List.take_zero, List.take_succ_cons, List.take_nil, cond_true, cond_false, Bool.and_self, Bool.and_true, and_self, and_true, true_and, if_true, bind_some', Nat.add_zero, Nat.zero_add, Nat.reduceAdd, Nat.reduceLeDiff, ne_eq, not_false_eq_true, Nat.add_eq_zero_iff, Nat.reduceEqDiff, one_ne_zero', zero_ne_one', nne1, nne2, nne3, Nat.add_right_cancel_iff, Nat.add_left_cancel_iff, Nat.le_refl, reduceCtorEq, bind_some', aBin_lss, aBin_leq, aBin_gtr, aBin_geq, aBin_eql, aBin_neq, aBin_add, aBin_sub, aBin_mul, aBin_seql, aBin_sneq, aBinb_eql, aBinb_neq, aUn_not, aUn_neg, aSlen_str, extr0, extr1, extr2]
      refine Ok.cnd (fun hlt => ?_) fun hlt => ?_
      · exact ⟨_, rfl, _, (show n ≤ m by omega), .inr ⟨rfl, bad (by
          have : ¬ i = 0 := by omega
          simp [facAt, List.getElem?_eq_getElem hi, List.getElem?_eq_getElem (by omega : i - 1 < l.length), hv, this]; omega)⟩⟩
      · refine ih _ ⟨(show n ≤ m by omega), good ?_⟩
        have : l[i - 1].id < l[i].id := by omega
        simp [facAt, List.getElem?_eq_getElem hi, List.getElem?_eq_getElem (by omega : i - 1 < l.length), hv, this]
    · rw [wrap_i (x := (i : Int) + 1) (by omega)]
      refine ih _ ⟨(show n ≤ m by omega), good ?_⟩
      have : i = 0 := by omega
      subst this
      simp [facAt, List.getElem?_eq_getElem hi, hv]
  · rintro _ ⟨st, hn, ⟨rfl, hA⟩ | ⟨rfl, hA⟩⟩
    · rw [k_spec_IsFactorList_1_0]
      simp only [SlOf.len h, bind_some', aBin_lss, aBin_leq, aBin_gtr, aBin_geq, aBin_eql, aBin_neq, aBin_add, aBin_sub, aBin_mul, aBin_seql, aBin_sneq, aBinb_eql, aBinb_neq, aUn_not, aUn_neg, aSlen_str, extr0, extr1, extr2]
      refine Ok.cnd (fun h40 => ?_) fun h40 => ?_
      · refine Ok.call (NamesOf_spec h s.1 _) (plain1 h.plain) fun r n2 hp => ?_
        obtain ⟨hn2, h2, _⟩ : st.n ≤ n2 ∧ SS r (namesM l) ∧ _ := hp
        simp only [SlOf.len h2, bind_some', aBin_lss, aBin_leq, aBin_gtr, aBin_geq, aBin_eql, aBin_neq, aBin_add, aBin_sub, aBin_mul, aBin_seql, aBin_sneq, aBinb_eql, aBinb_neq, aUn_not, aUn_neg, aSlen_str, extr0, extr1, extr2]
        refine Ok.retb (show n ≤ n2 by omega) ?_
        have : l.length ≤ 40 := by omega
        simp [flistM, hA, this]; omega
      · refine Ok.retb hn ?_
        have : ¬ l.length ≤ 40 := by omega
        simp [flistM, this]
    · rw [k_spec_IsFactorList_1_ret]
      refine Ok.retb (by (try simp only [new_n', setN_n', st0_n', put_n'] at *); first | omega | exact Nat.le_succ _ | exact Nat.le_refl _) ?_
      simp [flistM, hA]

end Go.Proofs.YtbomeeiaeohbpaaFw
