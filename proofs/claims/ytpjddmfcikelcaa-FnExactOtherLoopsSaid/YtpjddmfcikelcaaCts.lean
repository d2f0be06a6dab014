/- What the functions that the law reaches give back. Conditions: those of each theorem. -/
import Derived.Test.YtpjddmfcikelcaaEqs
set_option linter.unusedSimpArgs false
set_option linter.unusedVariables false
namespace Go.Proofs.YtpjddmfcikelcaaFw
open Go

theorem nodupB_of {l : List Nat} (h : l.Nodup) : nodupB l = true := by
  induction l with
  | nil => rfl
  | cons t l ih =>
    rw [List.nodup_cons] at h
    simp only [nodupB, Bool.and_eq_true, Bool.not_eq_true']
    exact ⟨by simpa using h.1, ih h.2⟩
theorem tagsL_append : ∀ (a b : List AV), tagsL (a ++ b) = tagsL a ++ tagsL b
  | [], b => rfl
  | v :: a, b => by simp [tagsL, tagsL_append a b]
theorem thBL_append : ∀ (a b : List AV), thBL (a ++ b) = (thBL a && thBL b)
  | [], b => rfl
  | v :: a, b => by simp [thBL, thBL_append a b, Bool.and_assoc]
theorem depL_append : ∀ (a b : List AV), depL (a ++ b) = max (depL a) (depL b)
  | [], b => by simp [depL]
  | v :: a, b => by simp [depL, depL_append a b, Nat.max_assoc]

/-- all slices new, their tags in [n, n') -/
def New (d n n' : Nat) (v : AV) : Prop := v.tags.Nodup ∧ (∀ t ∈ v.tags, n ≤ t ∧ t < n') ∧ thB v = true ∧ dep v ≤ d
def NewL (d n n' : Nat) (vs : List AV) : Prop := (tagsL vs).Nodup ∧ (∀ t ∈ tagsL vs, n ≤ t ∧ t < n') ∧ thBL vs = true ∧ depL vs ≤ d

mutual
theorem dep_tags : ∀ {v : AV}, dep v = 0 → thB v = true → v.tags = []
  | .sl .., h, _ => by simp [dep] at h
  | .agg cs, h, k => by
    simp only [dep] at h; simp only [thB, Bool.and_eq_true] at k
    simp only [AV.tags]; exact depL_tags h k.2
  | .bool _, _, _ => rfl
  | .int .., _, _ => rfl
  | .str _, _, _ => rfl
  | .nils, _, _ => rfl
  | .undef, _, k => by simp [thB] at k
  | .nilp, _, k => by simp [thB] at k
  | .ptr .., _, k => by simp [thB] at k
  | .eptr .., _, k => by simp [thB] at k
  | .lsl .., _, k => by simp [thB] at k
  | .tup .., _, k => by simp [thB] at k
theorem depL_tags : ∀ {vs : List AV}, depL vs = 0 → thBL vs = true → tagsL vs = []
  | [], _, _ => rfl
  | v :: vs, h, k => by
    simp only [depL] at h; simp only [thBL, Bool.and_eq_true] at k
    simp [tagsL, dep_tags (by omega) k.1, depL_tags (by omega) k.2]
end

theorem New.flat {d n n' : Nat} {v : AV} (h : dep v = 0) (k : thB v = true) : New d n n' v := by
  have := dep_tags h k
  exact ⟨by rw [this]; exact List.nodup_nil, by rw [this]; simp, k, by omega⟩
theorem NewL.nil {d n n' : Nat} : NewL d n n' [] := ⟨List.nodup_nil, by simp [tagsL], rfl, by simp [depL]⟩
theorem NewL.snoc {d n n1 n2 : Nat} {vs : List AV} {v : AV} (h : NewL d n n1 vs) (k : New d n1 n2 v) (h1 : n ≤ n1) (h2 : n1 ≤ n2) : NewL d n n2 (vs ++ [v]) := by
  obtain ⟨a1, a2, a3, a4⟩ := h
  obtain ⟨b1, b2, b3, b4⟩ := k
  have e : tagsL (vs ++ [v]) = tagsL vs ++ v.tags := by simp [tagsL_append, tagsL]
  refine ⟨?_, ?_, by simp [thBL_append, thBL, a3, b3], by simp [depL_append, depL]; omega⟩
  · rw [e, List.nodup_append]
    refine ⟨a1, b1, fun x hx y hy => ?_⟩
    have := a2 x hx; have := b2 y hy; omega
  · rw [e]; intro t ht
    rcases List.mem_append.1 ht with ht | ht
    · have := a2 t ht; omega
    · have := b2 t ht; omega
theorem NewL.cons {d n n1 n2 : Nat} {vs : List AV} {v : AV} (h : New d n n1 v) (k : NewL d n1 n2 vs) (h1 : n ≤ n1) (h2 : n1 ≤ n2) : NewL d n n2 (v :: vs) := by
  obtain ⟨a1, a2, a3, a4⟩ := h
  obtain ⟨b1, b2, b3, b4⟩ := k
  refine ⟨?_, ?_, by simp [thBL, a3, b3], by simp only [depL]; omega⟩
  · simp only [tagsL]; rw [List.nodup_append]
    refine ⟨a1, b1, fun x hx y hy => ?_⟩
    have := a2 x hx; have := b2 y hy; omega
  · simp only [tagsL]; intro t ht
    rcases List.mem_append.1 ht with ht | ht
    · have := a2 t ht; omega
    · have := b2 t ht; omega
theorem New.wide {d d' n n' m m' : Nat} {v : AV} (h : New d n n' v) (hd : d ≤ d') (h1 : m ≤ n) (h2 : n' ≤ m') : New d' m m' v :=
  ⟨h.1, fun t ht => by have := h.2.1 t ht; omega, h.2.2.1, by have := h.2.2.2; omega⟩
theorem NewL.wide {d d' n n' m m' : Nat} {v : List AV} (h : NewL d n n' v) (hd : d ≤ d') (h1 : m ≤ n) (h2 : n' ≤ m') : NewL d' m m' v :=
  ⟨h.1, fun t ht => by have := h.2.1 t ht; omega, h.2.2.1, by have := h.2.2.2; omega⟩
theorem New.sl {d n n' t s : Nat} {es : List AV} (h : NewL d (t + 1) n' es) (h1 : n ≤ t) (h2 : t < n') (h3 : s ≠ 0) : New (d + 1) n n' (.sl t 0 s es) := by
  obtain ⟨a1, a2, a3, a4⟩ := h
  refine ⟨?_, ?_, by simp [thB, nbeq, h3, a3], by simp only [dep]; omega⟩
  · simp only [AV.tags, List.nodup_cons]
    exact ⟨fun hm => by have := a2 t hm; omega, a1⟩
  · simp only [AV.tags]; intro x hx
    rcases List.mem_cons.1 hx with rfl | hx
    · omega
    · have := a2 x hx; omega
/-- the array's tag behind its elements' (appended) -/
theorem New.sl' {d n n' t s : Nat} {es : List AV} (h : NewL d n t es) (h1 : n ≤ t) (h2 : t < n') (h3 : s ≠ 0) : New (d + 1) n n' (.sl t 0 s es) := by
  obtain ⟨a1, a2, a3, a4⟩ := h
  refine ⟨?_, ?_, by simp [thB, nbeq, h3, a3], by simp only [dep]; omega⟩
  · simp only [AV.tags, List.nodup_cons]
    exact ⟨fun hm => by have := a2 t hm; omega, a1⟩
  · simp only [AV.tags]; intro x hx
    rcases List.mem_cons.1 hx with rfl | hx
    · omega
    · have := a2 x hx; omega
/-- flat elements -/
theorem NewL.flat {d n n' : Nat} {vs : List AV} (h : depL vs = 0) (k : thBL vs = true) : NewL d n n' vs := by
  have := depL_tags h k
  exact ⟨by rw [this]; exact List.nodup_nil, by rw [this]; simp, k, by omega⟩
theorem flatL {vs : List AV} (h : ∀ v ∈ vs, dep v = 0 ∧ thB v = true) : depL vs = 0 ∧ thBL vs = true := by
  induction vs with
  | nil => exact ⟨rfl, rfl⟩
  | cons v vs ih =>
    obtain ⟨a, b⟩ := h v List.mem_cons_self
    obtain ⟨c, d⟩ := ih fun w hw => h w (List.mem_cons_of_mem _ hw)
    exact ⟨by simp [depL, a, c], by simp [thBL, b, d]⟩
theorem New.nils {d n n' : Nat} : New d n n' .nils := New.flat rfl rfl
theorem New.agg {d n n' : Nat} {cs : List AV} (h : NewL d n n' cs) (k : cs.all AV.one = true) : New d n n' (.agg cs) :=
  ⟨h.1, h.2.1, by simp only [thB, Bool.and_eq_true]; exact ⟨k, h.2.2.1⟩, h.2.2.2⟩
theorem New.fresh {n n' : Nat} {v : AV} {d : Nat} (h : New d n n' v) (hd : d ≤ 6) : Fresh n n' v := ⟨nodupB_of h.1, h.2.1, h.2.2.1, by have := h.2.2.2; omega⟩

theorem All2.mem {α : Type} {R : AV → α → Prop} : ∀ {es : List AV} {l : List α}, All2 R es l → ∀ e ∈ es, ∃ x ∈ l, R e x
  | [], _, _, e, he => by simp at he
  | a :: es, l, h, e, he => by
    simp only [All2] at h
    obtain ⟨b, r, rfl, h1, h2⟩ := h
    rcases List.mem_cons.1 he with rfl | he
    · exact ⟨b, List.mem_cons_self, h1⟩
    · obtain ⟨x, hx, hr⟩ := h2.mem e he
      exact ⟨x, List.mem_cons_of_mem _ hx, hr⟩

/-- a loop that fills a fresh array -/
theorem to_loop {α ρ : Type} {R : AV → α → Prop} {d n0 : Nat} (Lp : Nat → St → Option ρ) (l : List α) (t s j : Nat) (z : AV)
    (step : ∀ (ds : List AV) (x : α) (k : Nat) (st : St), l[ds.length]? = some x → st.H j = some ⟨t, s, ds ++ z :: List.replicate k z⟩ → ds.length + 1 + k = l.length →
      ∃ v n', R v x ∧ New d st.n n' v ∧ st.n ≤ n' ∧ Lp ds.length st = Lp (ds.length + 1) ((st.put j ⟨t, s, ds ++ v :: List.replicate k z⟩).setN n')) :
    ∀ (k : Nat) (ds : List AV) (st : St), ds.length + k = l.length → st.H j = some ⟨t, s, ds ++ List.replicate k z⟩ → n0 ≤ st.n → NewL d n0 st.n ds → All2 R ds (l.take ds.length) →
      ∃ es st', Lp ds.length st = Lp l.length st' ∧ st'.H j = some ⟨t, s, es⟩ ∧ All2 R es l ∧ NewL d n0 st'.n es ∧ st.n ≤ st'.n ∧ (∀ i, i ≠ j → st'.H i = st.H i) ∧ st'.m = st.m
  | 0, ds, st, h, hH, hn, hF, hA => by
    refine ⟨ds, st, by rw [← h]; rfl, by simpa using hH, by rwa [List.take_of_length_le (by omega)] at hA, hF, Nat.le_refl _, fun _ _ => rfl, rfl⟩
  | k + 1, ds, st, h, hH, hn, hF, hA => by
    have hi : ds.length < l.length := by omega
    obtain ⟨v, n', h1, h2, h3, h4⟩ := step ds l[ds.length] k st (List.getElem?_eq_getElem hi) hH (by omega)
    obtain ⟨es, st', g1, g2, g3, g4, g5, g6, g7⟩ := to_loop Lp l t s j z step k (ds ++ [v]) ((st.put j ⟨t, s, ds ++ v :: List.replicate k z⟩).setN n') (by simp; omega)
      (by simp [St.setN, St.put]) (by simp [setN_n]; omega) (hF.snoc h2 hn h3) (by
        rw [List.length_append, List.length_singleton, List.take_add_one, List.getElem?_eq_getElem hi]
        exact hA.append (by simp only [Option.toList, All2]; exact ⟨_, _, rfl, h1, rfl⟩))
    refine ⟨es, st', ?_, g2, g3, g4, by simp [setN_n] at g5; omega, fun i hi => ?_, g7⟩
    · rw [h4, ← g1, List.length_append, List.length_singleton]
    · rw [g6 i hi]; simp [St.setN, St.put, nbeq, hi]

theorem eq_loop {α ρ : Type} [DecidableEq α] (Lp : Nat → Nat → Option ρ) (l1 l2 : List α) (e r : Nat → ρ) (hl : l1.length = l2.length) (he : ∀ n, Lp l1.length n = some (e n))
    (step : ∀ i x y n, l1[i]? = some x → l2[i]? = some y → ∃ n', n ≤ n' ∧ Lp i n = if x = y then Lp (i + 1) n' else some (r n')) :
    ∀ (k i n : Nat), i + k = l1.length → ∃ n', n ≤ n' ∧ Lp i n = some (if l1.drop i = l2.drop i then e n' else r n')
  | 0, i, n, h => by
    have : i = l1.length := by omega
    subst this
    exact ⟨n, Nat.le_refl _, by rw [he, if_pos (by rw [List.drop_length, hl, List.drop_length])]⟩
  | k + 1, i, n, h => by
    have h1 : i < l1.length := by omega
    have h2 : i < l2.length := by omega
    obtain ⟨n', g1, g2⟩ := step i l1[i] l2[i] n (List.getElem?_eq_getElem h1) (List.getElem?_eq_getElem h2)
    rw [g2, List.drop_eq_getElem_cons h1, List.drop_eq_getElem_cons h2]
    by_cases hx : l1[i] = l2[i]
    · obtain ⟨n2, f1, f2⟩ := eq_loop Lp l1 l2 e r hl he step k (i + 1) n' (by omega)
      rw [if_pos hx, f2]
      refine ⟨n2, Nat.le_trans g1 f1, ?_⟩
      simp only [hx, List.cons.injEq, true_and]
    · rw [if_neg hx]
      exact ⟨n', g1, by rw [if_neg fun h => hx (List.cons.inj h).1]⟩

theorem sz_loop {α ρ : Type} {c : α → Nat} (Lp : Nat → Int → Nat → Option ρ) (l : List α) (e r : Int → Nat → ρ) (he : ∀ z n, Lp l.length z n = some (e z n))
    (step : ∀ (i : Nat) (x : α) (left : Int) (n : Nat), l[i]? = some x → 0 ≤ left → left ≤ 1048576 → ∃ (z : Int) (n' : Nat), n ≤ n' ∧ z ≤ left ∧ (0 ≤ z → z = left - c x) ∧ Lp i left n = if z < 0 then some (r z n') else Lp (i + 1) z n') :
    ∀ (k i : Nat) (left : Int) (n : Nat), i + k = l.length → 0 ≤ left → left ≤ 1048576 →
      ∃ n', n ≤ n' ∧ ((∃ z, 0 ≤ z ∧ z = left - cntL c (l.drop i) ∧ Lp i left n = some (e z n')) ∨ ∃ z, z < 0 ∧ Lp i left n = some (r z n'))
  | 0, i, left, n, h, h0, h1 => by
    have : i = l.length := by omega
    subst this
    exact ⟨n, Nat.le_refl _, .inl ⟨left, h0, by simp [cntL], he _ _⟩⟩
  | k + 1, i, left, n, h, h0, h1 => by
    have hi : i < l.length := by omega
    obtain ⟨z, n', g1, g2, g3, g4⟩ := step i l[i] left n (List.getElem?_eq_getElem hi) h0 h1
    by_cases hz : z < 0
    · exact ⟨n', g1, .inr ⟨z, hz, by rw [g4, if_pos hz]⟩⟩
    · obtain ⟨n2, f1, f2⟩ := sz_loop Lp l e r he step k (i + 1) z n' (by omega) (by omega) (by omega)
      refine ⟨n2, Nat.le_trans g1 f1, ?_⟩
      rw [g4, if_neg hz, List.drop_eq_getElem_cons hi]
      have := g3 (by omega)
      rcases f2 with ⟨y, y0, y1, y2⟩ | f2
      · exact .inl ⟨y, y0, by simp only [cntL]; omega, y2⟩
      · exact .inr f2

/-- what is held after marks -/
theorem held_loop {α ρ : Type} {R : AV → α → Prop} {mk : α → Int → α} {c : α → Nat} (Lp : Nat → Int → Nat → Option ρ) (es : List AV)
    (step : ∀ i e x k n, es[i]? = some e → R e (mk x k) → 0 ≤ k → k + c x ≤ 4611686018427387904 → ∃ n', n ≤ n' ∧ Lp i k n = Lp (i + 1) (k + c x) n') :
    ∀ (l : List α) (i : Nat) (k : Int) (n : Nat), All2 R (es.drop i) (mkL mk c l k) → i ≤ es.length → 0 ≤ k → k + cntL c l ≤ 4611686018427387904 → ∃ n', n ≤ n' ∧ Lp i k n = Lp es.length (k + cntL c l) n'
  | [], i, k, n, h, hi, _, _ => by
    have := h.length
    simp [mkL] at this
    have : i = es.length := by omega
    subst this
    exact ⟨n, Nat.le_refl _, by simp [cntL]⟩
  | x :: l, i, k, n, h, hi, h0, hc => by
    have hl := h.length
    simp only [mkL, List.length_cons, List.length_drop] at hl
    have hi' : i < es.length := by omega
    rw [List.drop_eq_getElem_cons hi'] at h
    simp only [mkL, All2] at h
    obtain ⟨b, r, e, h1, h2⟩ := h
    cases e
    simp only [cntL] at hc
    obtain ⟨n', g1, g2⟩ := step i es[i] x k n (List.getElem?_eq_getElem hi') h1 h0 (by omega)
    obtain ⟨n2, f1, f2⟩ := held_loop Lp es step l (i + 1) (k + c x) n' h2 (by omega) (by omega) (by omega)
    refine ⟨n2, Nat.le_trans g1 f1, ?_⟩
    rw [g2, f2]
    simp only [cntL]
    rw [show k + (c x : Int) + (cntL c l : Nat) = k + ((c x + cntL c l : Nat) : Int) by omega]

def iota (_ : Int) (k : Int) : Int := k
def mkB (_ : Bool) (k : Int) : Bool := decide (k.tmod 3 = 0)
theorem cnt_one {α : Type} : ∀ (l : List α), cntL (fun _ => 1) l = l.length
  | [] => rfl
  | x :: l => by simp [cntL, cnt_one l]; omega

theorem slof_thB {α : Type} {s d : Nat} {R : AV → α → Prop} {st : St} {a b : Nat} {v T : AV} {l : List α} (hs : s ≠ 0) (h : SlOf s R T l) (k : Own st a b v T)
    (he : ∀ (st : St) (a b : Nat) (v T : AV) (x : α), R T x → Own st a b v T → Go.Proofs.YtpjddmfcikelcaaFw.thB T = true ∧ dep T ≤ d) : Go.Proofs.YtpjddmfcikelcaaFw.thB T = true ∧ dep T ≤ d + 1 := by
  rcases k.slice h with ⟨_, rfl, _⟩ | ⟨t, j, vs, es, rfl, _, _, _, _, h5, h6⟩
  · exact ⟨rfl, by simp [dep]⟩
  · have h7 : ∀ (es : List AV) (l : List α) (vs : List AV) (a : Nat), All2 R es l → OwnL st a j vs es → thBL es = true ∧ depL es ≤ d := by
      intro es
      induction es with
      | nil => intro l _ _ _ _; exact ⟨rfl, by simp [depL]⟩
      | cons e es ih =>
        intro l vs a h h'
        simp only [All2] at h
        simp only [OwnL] at h'
        obtain ⟨b, r, _, hr, h⟩ := h
        obtain ⟨w, ws, c, _, o1, o2⟩ := h'
        obtain ⟨i1, i2⟩ := ih r _ _ h o2
        obtain ⟨j1, j2⟩ := he _ _ _ _ _ _ hr o1
        exact ⟨by simp [thBL, j1, i1], by simp only [depL]; omega⟩
    obtain ⟨g1, g2⟩ := h7 es l vs a h6 h5
    exact ⟨by simp [Go.Proofs.YtpjddmfcikelcaaFw.thB, g1, nbeq, hs], by simp only [dep]; omega⟩

def Helds (f : Nat) {α : Type} (P : AV → α → Prop) (mk : α → Int → α) (c : α → Nat) : Prop :=
  ∀ (v : AV) (x : α) (k : Int) (n : Nat), P v (mk x k) → 0 ≤ k → k + c x ≤ 4611686018427387904 → Ok (L.call f [v, .int .i64 k] n) fun p => n ≤ p.2 ∧ p.1 = .int .i64 (k + c x)

theorem resD_setN (E : St) (n : Nat) : ∀ (d : Nat) (v : AV), resD (E.setN n) d v = resD E d v
  | 0, _ => rfl
  | d + 1, v => by
    have h : resD (E.setN n) d = resD E d := funext (resD_setN E n d)
    simp only [resD, h]; rfl
theorem res_setN (E : St) (n : Nat) (v : AV) : res (E.setN n) v = res E v := resD_setN E n 6 v
theorem res_setN' (E : St) (n : Nat) : res (E.setN n) = res E := funext (res_setN E n)
theorem locD_setN (E : St) (n : Nat) : ∀ (d : Nat) (v : AV), locD (E.setN n) d v = locD E d v
  | 0, _ => rfl
  | d + 1, v => by
    have h : locD (E.setN n) d = locD E d := funext (locD_setN E n d)
    simp only [locD, h]; rfl
theorem locs_setN (E : St) (n : Nat) (vs : List AV) : locs (E.setN n) vs = locs E vs := by
  have h : locD (E.setN n) 6 = locD E 6 := funext (locD_setN E n 6)
  simp only [locs, h]

theorem Own.setN {E : St} {n a b : Nat} {v T : AV} (h : Own E a b v T) : Own (E.setN n) a b v T := h.frame fun _ _ _ => rfl
theorem Own.unN {E : St} {n a b : Nat} {v T : AV} (h : Own (E.setN n) a b v T) : Own E a b v T := h.frame fun _ _ _ => rfl

section
variable {β : Type} {R : Sys}

/-- a call whose result is a scalar, or whose arguments are no local arrays: n grows alone -/
theorem Ok.callS {E : St} {n f : Nat} {xs ts : List AV} {P : AV × Nat → Prop} {K : AV × St → Option β} {Q : β → Prop} (hr : mapO (res E) xs = some ts) (hc : Ok (R.call f ts n) P)
    (hs : ∀ r n', P (r, n') → ∀ ls, reloc ls r = some r) (k : ∀ r n', P (r, n') → Ok (K (r, E.setN n')) Q) : Ok ((clV R f 0 xs (E.setN n)).bind K) Q := by
  obtain ⟨⟨r, n'⟩, e, h⟩ := hc
  simp only [clV, res_setN', hr, Option.bind_some, setN_n, e, hs r n' h]
  exact k r n' h
theorem Ok.callP {E : St} {n f : Nat} {xs : List AV} {P : AV × Nat → Prop} {K : AV × St → Option β} {Q : β → Prop} (hp : ∀ x ∈ xs, Plain x) (hc : Ok (R.call f xs n) P)
    (k : ∀ r n', P (r, n') → Ok (K (r, E.setN n')) Q) : Ok ((clV R f 0 xs (E.setN n)).bind K) Q := Ok.call (st := E.setN n) hc hp k
/-- the result is taken over -/
theorem Ok.callT {E : St} {d n f : Nat} {xs ts : List AV} {P : AV × Nat → Prop} {K : AV × St → Option β} {Q : β → Prop} (hr : mapO (res E) xs = some ts) (hc : Ok (R.call f ts n) P)
    (hf : ∀ r n', P (r, n') → New d n n' r) (hd : d ≤ 6) (k : ∀ r n' v E', P (r, n') → E.m ≤ E'.m → (∀ j, j < E.m → E'.H j = E.H j) → Own E' E.m E'.m v r → Ok (K (v, E'.setN n')) Q) :
    Ok ((clV R f 6 xs (E.setN n)).bind K) Q := by
  obtain ⟨⟨r, n'⟩, e, h⟩ := hc
  have hN := hf r n' h
  have ht : ∀ vs, r ≠ .tup vs := fun vs e => by rw [e] at hN; simp [New, thB] at hN
  obtain ⟨v, st', t1, t2, t3, t4, t5⟩ := thaw_own (st := E.setN n') (hN.fresh hd) ht
  have hx : clV R f 6 xs (E.setN n) = some (v, st') := by
    simp only [clV, res_setN', hr, Option.bind_some, setN_n, e]
    exact t1
  rw [hx]
  have := k r n' v st' h t2 t4 t5
  rw [show st'.setN n' = st' by rw [← show st'.n = n' from t3]; rfl] at this
  exact this

theorem Ok.inl {f : Nat} {xs : List AV} {st : St} {P : AV × St → Prop} {K : AV × St → Option β} {Q : β → Prop} (hc : Ok (R.inl f xs st) P) (k : ∀ (v : AV) (E : St) (n : Nat), P (v, E.setN n) → Ok (K (v, E.setN n)) Q) : Ok ((R.inl f xs st).bind K) Q := by
  obtain ⟨⟨v, st'⟩, e, h⟩ := hc
  rw [e]; exact k v st' st'.n h

theorem Ok.mkNew {E : St} {n : Nat} {e : AV} {K : AV → St → Option β} {Q : β → Prop} (h : e.stor = true) (h0 : e.cells.length ≠ 0) (k : ∀ (E' : St), E'.m = E.m + 1 → (∀ j, j < E.m → E'.H j = E.H j) → E'.H E.m = some ⟨n, e.cells.length, [e]⟩ → Ok (K (.ptr E.m n 0 0) (E'.setN (n + 1))) Q) : Ok (mkNew e (E.setN n) K) Q := by
  rw [mkNew_eq h h0]
  exact k ((E.setN n).new e.cells.length [e]) rfl (fun j hj => new_H_ne (Nat.ne_of_lt hj)) (new_H _ _ _)
end

theorem mapO1 {g : AV → Option AV} {x y : AV} (h : g x = some y) : mapO g [x] = some [y] := by simp [mapO, h]
theorem mapO2 {g : AV → Option AV} {x y x' y' : AV} (h : g x = some x') (k : g y = some y') : mapO g [x, y] = some [x', y'] := by simp [mapO, h, k]
theorem mapO3 {g : AV → Option AV} {x y z x' y' z' : AV} (h : g x = some x') (k : g y = some y') (l : g z = some z') : mapO g [x, y, z] = some [x', y', z'] := by simp [mapO, h, k, l]
theorem mapO4 {g : AV → Option AV} {x y z u x' y' z' u' : AV} (h : g x = some x') (k : g y = some y') (l : g z = some z') (m : g u = some u') : mapO g [x, y, z, u] = some [x', y', z', u'] := by simp [mapO, h, k, l, m]
theorem mapO_int {g : AV → Option AV} {E : St} {k : IntKind} {i : Int} : res E (.int k i) = some (.int k i) := rfl

theorem scal_bool {n : Nat} {b : Bool} {P : AV × Nat → Prop} (h : ∀ r n', P (r, n') → r = .bool b) : ∀ r n', P (r, n') → ∀ ls, reloc ls r = some r := fun r n' p ls => by rw [h r n' p]; exact reloc_bool ls b
theorem scal_b {b : Bool} {n : Nat} : ∀ r n', (fun p : AV × Nat => n ≤ p.2 ∧ p.1 = .bool b) (r, n') → ∀ ls, reloc ls r = some r := fun r n' p ls => by
  have : r = .bool b := p.2
  rw [this]; exact reloc_bool ls b
theorem scal_i {k : IntKind} {b : Int} {n : Nat} : ∀ r n', (fun p : AV × Nat => n ≤ p.2 ∧ p.1 = .int k b) (r, n') → ∀ ls, reloc ls r = some r := fun r n' p ls => by
  have : r = .int k b := p.2
  rw [this]; exact reloc_int ls k b

section
variable {α β ρ σ : Type}
theorem Ok.loop {Lp : Nat → σ → Option ρ} {I : Nat → σ → Prop} {Q : ρ → Prop} (n : Nat) (he : ∀ s, I n s → Ok (Lp n s) Q)
    (hs : ∀ i s, i < n → I i s → (∀ s', I (i + 1) s' → Ok (Lp (i + 1) s') Q) → Ok (Lp i s) Q) : ∀ k i s, i + k = n → I i s → Ok (Lp i s) Q
  | 0, i, s, h, hi => by
    have : i = n := by omega
    subst this; exact he s hi
  | k + 1, i, s, h, hi => hs i s (by omega) hi fun s' h' => Ok.loop n he hs k (i + 1) s' (by omega) h'

/-- a local array that grows -/
def Acc (n0 : Nat) (st : St) (s : Nat) (v : AV) (es : List AV) : Prop :=
  (v = .nils ∧ es = []) ∨ ∃ j t, Loc st j t s v es ∧ j < st.m ∧ n0 ≤ t ∧ t < st.n
def isAt (v : AV) (i : Nat) : Prop := ∃ t s off len, v = .lsl i t s off len

theorem Acc.lt {n0 s : Nat} {st : St} {v : AV} {es : List AV} (h : Acc n0 st s v es) {q : Nat} (hq : isAt v q) : q < st.m := by
  obtain ⟨t', s', off, len, e⟩ := hq
  rcases h with ⟨rfl, _⟩ | ⟨j, t, h, h1, _⟩
  · cases e
  · rw [h.1] at e; cases e; exact h1
theorem Acc.nil {n0 s : Nat} {st : St} : Acc n0 st s .nils [] := .inl ⟨rfl, rfl⟩
theorem Acc.arr {n0 s : Nat} {st : St} {v : AV} {es : List AV} (h : Acc n0 st s v es) : Arr st s v es := by
  rcases h with ⟨rfl, rfl⟩ | ⟨j, t, h, _⟩
  · exact .nil
  · exact h.arr
theorem Acc.frame {n0 s : Nat} {st st' : St} {v : AV} {es : List AV} (h : Acc n0 st s v es) (k : ∀ i, i < st.m → st'.H i = st.H i) (hm : st.m ≤ st'.m) (hn : st.n ≤ st'.n) : Acc n0 st' s v es := by
  rcases h with ⟨rfl, rfl⟩ | ⟨j, t, h, h1, h2, h3⟩
  · exact .inl ⟨rfl, rfl⟩
  · exact .inr ⟨j, t, h.frame (k j h1), by omega, h2, by omega⟩
theorem Acc.setN {n0 s n' : Nat} {st : St} {v : AV} {es : List AV} (h : Acc n0 st s v es) (hn : st.n ≤ n') : Acc n0 (st.setN n') s v es := h.frame (fun _ _ => rfl) (Nat.le_refl _) hn
theorem Acc.new {n0 s k : Nat} {st : St} {v : AV} {es xs : List AV} (h : Acc n0 st s v es) : Acc n0 (st.new k xs) s v es := h.frame (fun _ hi => new_H_ne (Nat.ne_of_lt hi)) (Nat.le_succ _) (Nat.le_succ _)

theorem lit0 {s : Nat} {z : AV} {st : St} {K : AV → St → Option β} (h : z.stor = true) (h1 : z.cells.length = s) (h2 : s ≠ 0) : mkLit 0 s z [] st K = K (.lsl st.m st.n s 0 0) (st.new s []) := by
  unfold mkLit; rw [if_pos ⟨h, h1, h2⟩]; rfl
theorem lit1 {s : Nat} {z x : AV} {st : St} {K : AV → St → Option β} (h : z.stor = true) (h1 : z.cells.length = s) (h2 : s ≠ 0) (hx : x.stor = true) (hx1 : x.cells.length = s) : mkLit 1 s z [(0, x)] st K = K (.lsl st.m st.n s 0 1) (st.new s [x]) := by
  unfold mkLit; rw [if_pos ⟨h, h1, h2⟩]
  simp only [mkSlice, List.length_replicate]
  rw [if_pos ⟨hx, hx1, by omega⟩]; rfl
theorem Acc.lit {n0 s : Nat} {st : St} (h : n0 ≤ st.n) : Acc n0 (st.new s []) s (.lsl st.m st.n s 0 0) [] := .inr ⟨st.m, st.n, ⟨rfl, new_H _ _ _⟩, Nat.lt_succ_self _, h, Nat.lt_succ_self _⟩

theorem one_stor {v : AV} (h : v.one = true) : v.stor = true ∧ v.cells.length = 1 := by cases v <;> simp [AV.one] at h <;> exact ⟨rfl, rfl⟩

/-- what is appended is an array that holds ys -/
theorem Acc.app {n0 s : Nat} {st : St} {v y : AV} {es ys : List AV} (h : Acc n0 st s v es) (hy : Arr st s y ys) (hn : n0 ≤ st.n) (hl : es.length + ys.length ≤ 4294967296) :
    ∃ v' st', aApp s v y st = some (v', st') ∧ Acc n0 st' s v' (es ++ ys) ∧ st.m ≤ st'.m ∧ st'.n = st.n + 1 ∧ (∀ i, i < st.m → ¬ isAt v i → st'.H i = st.H i) ∧ (∀ q, isAt v' q → isAt v q ∨ st.m ≤ q) := by
  obtain ⟨e1, e2⟩ := hy.elems
  rcases h with ⟨rfl, rfl⟩ | ⟨j, t, h, h1, h2, h3⟩
  · refine ⟨_, _, nil_app e1 e2 (by simpa using hl), .inr ⟨st.m, st.n, ⟨rfl, new_H _ _ _⟩, Nat.lt_succ_self _, hn, Nat.lt_succ_self _⟩, Nat.le_succ _, rfl, fun i hi _ => new_H_ne (Nat.ne_of_lt hi), fun q hq => ?_⟩
    obtain ⟨_, _, _, _, e⟩ := hq; cases e; exact .inr (Nat.le_refl _)
  · refine ⟨_, _, h.app e1 e2 hl, .inr ⟨j, st.n, app_loc rfl, h1, hn, Nat.lt_succ_self _⟩, Nat.le_refl _, rfl, fun i hi hne => ?_, fun q hq => ?_⟩
    case refine_2 => obtain ⟨_, _, _, _, e⟩ := hq; cases e; exact .inl ⟨t, s, 0, es.length, h.1⟩
    have : i ≠ j := fun e => hne ⟨t, s, 0, es.length, by rw [e]; exact h.1⟩
    exact put_H_ne this

/-- one element more -/
theorem Ok.push {n0 s : Nat} {st : St} {z v x : AV} {es : List AV} {K : AV × St → Option β} {Q : β → Prop} (h : Acc n0 st s v es) (hn : n0 ≤ st.n) (hz : z.stor = true) (hz1 : z.cells.length = s) (hs : s ≠ 0) (hx : x.stor = true) (hx1 : x.cells.length = s)
    (hl : es.length < 4294967296) (k : ∀ v' st', Acc n0 st' s v' (es ++ [x]) → st.m ≤ st'.m → st.n ≤ st'.n → (∀ i, i < st.m → ¬ isAt v i → st'.H i = st.H i) → (∀ q, isAt v' q → isAt v q ∨ st.m ≤ q) → Ok (K (v', st')) Q) :
    Ok (mkLit 1 s z [(0, x)] st fun y s2 => (aApp s v y s2).bind K) Q := by
  rw [lit1 hz hz1 hs hx hx1]
  have hy : Arr (st.new s [x]) s (.lsl st.m st.n s 0 1) [x] := (Loc.new (st := st) (s := s) (es := [x])).arr
  obtain ⟨v', st', e, g1, g2, g3, g4, g5⟩ := (h.new (k := s) (xs := [x])).app hy (Nat.le_trans hn (Nat.le_succ _)) (by simp; omega)
  rw [e]
  refine k v' st' g1 (Nat.le_trans (Nat.le_succ _) g2) (by rw [g3, new_n]; omega) (fun i hi hne => ?_) fun q hq => (g5 q hq).imp id fun h => Nat.le_trans (Nat.le_succ _) h
  rw [g4 i (by rw [new_m]; omega) hne, new_H_ne (Nat.ne_of_lt hi)]

theorem Acc.fin {n0 s d : Nat} {st : St} {v : AV} {es : List AV} (h : Acc n0 st s v es) (hp : ∀ e ∈ es, Plain e) : ∃ T, resTup st v = some T ∧ res st v = some T ∧ IsSl s T es ∧ (s ≠ 0 → depL es = 0 → thBL es = true → New (d + 1) n0 st.n T) ∧ ∀ t ∈ T.tags, n0 ≤ t ∨ ∃ e ∈ es, t ∈ e.tags := by
  rcases h with ⟨rfl, rfl⟩ | ⟨j, t, h, h1, h2, h3⟩
  · exact ⟨.nils, rfl, rfl, .inl ⟨rfl, rfl⟩, fun _ _ _ => New.nils, by simp [AV.tags]⟩
  · refine ⟨.sl t 0 s es, h.resTup hp, h.res hp, .inr ⟨_, _, rfl⟩, fun hs h4 h5 => New.sl (NewL.flat h4 h5) h2 h3 hs, ?_⟩
    intro u hu
    simp only [AV.tags] at hu
    rcases List.mem_cons.1 hu with rfl | hu
    · exact .inl h2
    · exact .inr (tagsL_mem.1 hu)

theorem SlOf.intro {s : Nat} {R : AV → α → Prop} {T : AV} {es : List AV} {l : List α} (h : IsSl s T es) (k : All2 R es l) : SlOf s R T l := ⟨es, h, k⟩

theorem All2.snoc {R : AV → α → Prop} {es : List AV} {l : List α} {e : AV} {x : α} (h : All2 R es l) (k : R e x) : All2 R (es ++ [e]) (l ++ [x]) := h.append (by simp only [All2]; exact ⟨_, _, rfl, k, rfl⟩)

/-- reading an element of a slice of one-cell elements -/
theorem Arr.get1 {st : St} {v : AV} {es : List AV} {R : AV → α → Prop} {l : List α} (h : Arr st 1 v es) (k : All2 R es l) {i : Nat} {x : α} (hx : l[i]? = some x) (ho : ∀ e, R e x → e.one = true) (kd : IntKind) :
    ∃ e p, R e x ∧ aIaddr 1 v (.int kd (i : Int)) = some p ∧ aLoad false 1 st p = some e := by
  obtain ⟨e, he, hr⟩ := k.get i x hx
  have hi := (List.getElem?_eq_some_iff.1 he).1
  obtain ⟨p, q1, q2⟩ := h.at hi kd
  have : es[i] = e := by rw [List.getElem?_eq_getElem hi] at he; exact Option.some.inj he
  exact ⟨e, p, hr, q1, by rw [q2, this, ld_one (ho e hr)]⟩
end
theorem wrap_i {x : Int} (h : -9223372036854775808 ≤ x ∧ x ≤ 9223372036854775807) : IntKind.wrap .i64 x = x := wrap64 h.1 h.2

theorem one_ne_zero' : ¬ (1 : Nat) = 0 := by omega
theorem zero_ne_one' : ¬ (0 : Nat) = 1 := by omega
theorem new_m' (st : St) (s : Nat) (es : List AV) : (st.new s es).m = st.m + 1 := id rfl
theorem new_n' (st : St) (s : Nat) (es : List AV) : (st.new s es).n = st.n + 1 := id rfl
theorem setN_m' (st : St) (n : Nat) : (st.setN n).m = st.m := id rfl
theorem setN_n' (st : St) (n : Nat) : (st.setN n).n = n := id rfl
theorem st0_m' (n : Nat) : (st0 n).m = 0 := id rfl
theorem st0_n' (n : Nat) : (st0 n).n = n := id rfl
theorem put_m' (st : St) (j : Nat) (a : LArr) : (st.put j a).m = st.m := id rfl
theorem put_n' (st : St) (j : Nat) (a : LArr) : (st.put j a).n = st.n := id rfl
theorem mkNew_zc {α : Type} {cs : List AV} {st : St} {K : AV → St → Option α} (h : cs.all AV.one = true) (h0 : ¬ cs.length = 0) : mkNew (.agg cs) st K = K (.ptr st.m st.n 0 0) (st.new cs.length [.agg cs]) := mkNew_eq h h0
theorem ba_toList (b : ByteArray) : b.toList = b.data.toList := by
  have : ∀ (k i : Nat) (acc : List UInt8), b.size - i = k → ByteArray.toList.loop b i acc = acc.reverse ++ b.data.toList.drop i := by
    intro k
    induction k with
    | zero =>
      intro i acc h
      unfold ByteArray.toList.loop
      rw [if_neg (by omega), List.drop_of_length_le (by simp; have : b.data.size = b.size := rfl; omega)]; simp
    | succ k ih =>
      intro i acc h
      unfold ByteArray.toList.loop
      have hi : i < b.size := by omega
      have hi' : i < b.data.toList.length := by simpa using hi
      rw [if_pos hi, ih (i + 1) _ (by omega), List.reverse_cons, List.append_assoc, List.singleton_append, List.drop_eq_getElem_cons hi']
      congr 2
      simp [ByteArray.get!]
      rw [getElem!_pos]
  have := this b.size 0 [] (by omega)
  simpa [ByteArray.toList] using this
theorem aBin_seql (a b : ByteArray) : aBin .eql (.str a) (.str b) = some (.bool (decide (a = b))) := by
  have : (a.toList == b.toList) = decide (a = b) := by
    by_cases h : a = b
    · subst h; simp
    · simp only [h, decide_false]
      have : ¬ a.toList = b.toList := fun e => h (by
        have h1 : a.data.toList = b.data.toList := by
          have ha : a.toList = a.data.toList := ba_toList a
          have hb : b.toList = b.data.toList := ba_toList b
          rw [← ha, ← hb, e]
        have h2 : a.data = b.data := Array.toList_inj.1 h1
        cases a; cases b; simp at h2; rw [h2])
      simp [this]
  simp only [aBin, sBin, this]
theorem aBin_sneq (a b : ByteArray) : aBin .neq (.str a) (.str b) = some (.bool (decide (¬ a = b))) := by
  have h := aBin_seql a b
  simp only [aBin, sBin, Option.some.injEq, AV.bool.injEq] at h ⊢
  rw [h]; by_cases e : a = b <;> simp [e]

/-- a call gives a value without slices -/
def Gives (f : Nat) (xs : List AV) (r : AV) : Prop := ∀ n, Ok (L.call f xs n) fun p => n ≤ p.2 ∧ p.1 = r
theorem Gives.of {f : Nat} {xs : List AV} {r : AV} (h : ∀ n, L.call f xs n = some (r, n)) : Gives f xs r := fun n => ⟨_, h n, Nat.le_refl _, rfl⟩
theorem Ok.gives {β : Type} {f : Nat} {xs : List AV} {r : AV} {st : St} {K : AV × St → Option β} {Q : β → Prop} (hg : Gives f xs r) (hp : ∀ x ∈ xs, Plain x) (k : ∀ n', st.n ≤ n' → Ok (K (r, st.setN n')) Q) : Ok ((clV L f 0 xs st).bind K) Q :=
  Ok.call (hg st.n) hp fun r' n' h => by rw [show r' = r from h.2]; exact k n' h.1
/-- the same, where arguments may be local arrays; the result has no slices -/
theorem Ok.givesL {β : Type} {f : Nat} {xs ts : List AV} {r : AV} {st : St} {K : AV × St → Option β} {Q : β → Prop} (hg : Gives f ts r) (hr : mapO (res st) xs = some ts) (hl : ∀ ls, reloc ls r = some r) (k : ∀ n', st.n ≤ n' → Ok (K (r, st.setN n')) Q) : Ok ((clV L f 0 xs st).bind K) Q :=
  Ok.callL hr (hg st.n) fun r' n' h => by rw [show r' = r from h.2]; exact ⟨r, hl _, k n' h.1⟩
theorem Ok.ret {n m : Nat} {v r : AV} {st : St} (h : resTup st v = some v) (hn : n ≤ m) (e : v = r) : Ok ((resTup st v).bind fun r => some (r, m)) fun p => n ≤ p.2 ∧ p.1 = r := by
  rw [h]; exact ⟨_, rfl, hn, e⟩
theorem Ok.retb {n m : Nat} {b c : Bool} {st : St} (hn : n ≤ m) (e : b = c) : Ok ((resTup st (.bool b)).bind fun r => some (r, m)) fun p => n ≤ p.2 ∧ p.1 = .bool c := Ok.ret rfl hn (by rw [e])
theorem Ok.reti {n m : Nat} {k : IntKind} {b c : Int} {st : St} (hn : n ≤ m) (e : b = c) : Ok ((resTup st (.int k b)).bind fun r => some (r, m)) fun p => n ≤ p.2 ∧ p.1 = .int k c := Ok.ret rfl hn (by rw [e])
def plainB (v : AV) : Bool := v.tree && match v with | .agg cs => cs.all AV.one | v => v.one
theorem pB1 {v : AV} (h : plainB v = true) : Plain v := by
  unfold plainB at h
  rw [Bool.and_eq_true] at h
  refine ⟨h.1, ?_⟩
  cases v <;> first | exact .inr ⟨_, rfl, h.2⟩ | exact .inl h.2
theorem pB {xs : List AV} (h : xs.all plainB = true) : ∀ x ∈ xs, Plain x := fun x hx => pB1 (List.all_eq_true.1 h x hx)
theorem plain4 {a b c d : AV} (h : Plain a) (k : Plain b) (l : Plain c) (m : Plain d) : ∀ x ∈ [a, b, c, d], Plain x := by
  intro x hx
  simp only [List.mem_cons, List.not_mem_nil, or_false] at hx
  rcases hx with rfl | rfl | rfl | rfl <;> assumption

def byteAt (b : ByteArray) (i : Nat) : Nat := ((b[i]?).map (·.toNat)).getD 0
def nameAt (b : ByteArray) (i : Nat) : Bool := decide ((97 ≤ byteAt b i ∧ byteAt b i ≤ 122) ∨ (i ≠ 0 ∧ 48 ≤ byteAt b i ∧ byteAt b i ≤ 57))
def nameM (b : ByteArray) : Bool := decide (1 ≤ b.size ∧ b.size ≤ 8) && allF (nameAt b) 0 b.size
def poseNameM (b : ByteArray) : Bool := nameM b && decide (byteAt b 0 = 112)
def landNameM (b : ByteArray) : Bool := nameM b && decide (byteAt b 0 = 109)
theorem byteAt_lt {b : ByteArray} {i : Nat} (h : i < b.size) : byteAt b i = (b[i]).toNat := by simp [byteAt, h]

def RI (v : AV) (i : Int) : Prop := v = .int .i64 i
def IS (v : AV) (l : List Int) : Prop := SlOf 1 RI v l
theorem IS.plain {v : AV} {l : List Int} (h : IS v l) : Plain v := SlOf.plain h fun _ _ hr => by cases hr; rfl
def i64ok (n : Int) : Prop := -9223372036854775808 ≤ n ∧ n ≤ 9223372036854775807
theorem i64_wf {n : Int} (h : (Lit.int .i64 n).wf = true) : i64ok n := by
  unfold i64ok
  simp [Lit.wf, IntKind.min, IntKind.max, IntKind.signed, IntKind.bits] at h
  omega
theorem is_in {v : AV} (h : CT.has (.sl false [.int .i64]) v) : ∃ l, IS v l ∧ l.length ≤ maxLen ∧ ∀ n ∈ l, i64ok n :=
  has_sl h fun _ hx => by
    simp only [CT.has] at hx
    obtain ⟨n, rfl, hw⟩ := hx
    exact ⟨n, rfl, i64_wf hw⟩

def RB (v : AV) (b : Bool) : Prop := v = .bool b
def BS (v : AV) (l : List Bool) : Prop := SlOf 1 RB v l
def BSS (v : AV) (l : List (List Bool)) : Prop := SlOf 1 BS v l

theorem BS.plain {v : AV} {l : List Bool} (h : BS v l) : Plain v := SlOf.plain h fun _ _ hr => by cases hr; rfl
theorem BSS.plain {v : AV} {l : List (List Bool)} (h : BSS v l) : Plain v := SlOf.plain h fun _ _ hr => (BS.plain hr).1
theorem bss_in {v : AV} (h : CT.has (.sl false [.sl false [.bool]]) v) : ∃ l, BSS v l ∧ l.length ≤ maxLen ∧ ∀ r ∈ l, r.length ≤ maxLen :=
  has_sl h fun _ hx => by
    obtain ⟨l, h1, h2, _⟩ := has_sl (R := RB) (P := fun _ => True) hx fun y hy => by
      simp only [CT.has] at hy
      obtain ⟨b, rfl⟩ := hy
      exact ⟨b, rfl, trivial⟩
    exact ⟨l, h1, h2⟩

def at2 (l : List (List Bool)) (i j : Nat) : Bool := ((l[i]?).bind (·[j]?)).getD false
def lenOk (l : List (List Bool)) (i : Nat) : Bool := decide ((l[i]?).map (·.length) = some l.length)
def cellOk (l : List (List Bool)) (i j : Nat) : Bool := !(at2 l i j && decide (i = j)) && decide (at2 l i j = at2 l j i)
def rowOk (l : List (List Bool)) (i : Nat) : Bool := allF (cellOk l i) 0 l.length
def graphM (l : List (List Bool)) : Bool := decide (l.length ≤ 12) && allF (lenOk l) 0 l.length && allF (rowOk l) 0 l.length

def vt (l : List Int) (i : Nat) : Int := (l[i]?).getD 0
def inR (n : Nat) (v : Int) : Bool := decide (0 ≤ v ∧ v ≤ (n : Int) - 1)
def adjI (g : List (List Bool)) (u v : Int) : Bool := at2 g u.toNat v.toNat
def cliqueAt (g : List (List Bool)) (l : List Int) (i : Nat) : Bool := inR g.length (vt l i) && allF (fun j => decide (vt l j < vt l i) && adjI g (vt l i) (vt l j)) 0 i
def cliqueM (g : List (List Bool)) (l : List Int) : Bool := graphM g && allF (cliqueAt g l) 0 l.length

theorem graphM_rows {g : List (List Bool)} (h : graphM g = true) : g.length ≤ 12 ∧ ∀ i, i < g.length → ∃ r, g[i]? = some r ∧ r.length = g.length := by
  unfold graphM at h
  simp only [Bool.and_eq_true, decide_eq_true_iff] at h
  refine ⟨h.1.1, fun i hi => ?_⟩
  have := allF_iff.1 h.1.2 i (Nat.zero_le i) (by omega)
  simp only [lenOk, decide_eq_true_iff, List.getElem?_eq_getElem hi, Option.map_some, Option.some.injEq] at this
  exact ⟨g[i], List.getElem?_eq_getElem hi, this⟩

/-- an element of the graph -/
theorem graph_get {x0 : AV} {g : List (List Bool)} (h0 : BSS x0 g) (h : graphM g = true) {u v : Int} (hu : 0 ≤ u ∧ u < g.length) (hv : 0 ≤ v ∧ v < g.length) (st : St) :
    ∃ e, aIaddr 1 x0 (.int .i64 u) = some (.eptr e.cells) ∧ aLoad false 1 st (.eptr e.cells) = some e ∧ aIaddr 1 e (.int .i64 v) = some (.eptr (AV.bool (adjI g u v)).cells) := by
  obtain ⟨_, hr⟩ := graphM_rows h
  obtain ⟨r, h1, h2⟩ := hr u.toNat (by omega)
  obtain ⟨e, p1, g1⟩ := SlOf.idx h0 h1
  obtain ⟨e2, rfl, g2⟩ := SlOf.idx p1 (List.getElem?_eq_getElem (by omega : v.toNat < r.length))
  have a1 : ((u.toNat : Nat) : Int) = u := by omega
  have a2 : ((v.toNat : Nat) : Int) = v := by omega
  have q1 := g1 .i64
  have q2 := g2 .i64
  rw [a1] at q1; rw [a2] at q2
  refine ⟨e, q1, load_one (SlOf.one p1), ?_⟩
  rw [q2]
  simp [adjI, at2, h1, List.getElem?_eq_getElem (by omega : v.toNat < r.length)]
theorem adj_symm {g : List (List Bool)} (hg : graphM g = true) {u v : Int} (hu : inR g.length u = true) (hv : inR g.length v = true) : adjI g u v = adjI g v u := by
  simp only [inR, decide_eq_true_iff] at hu hv
  unfold graphM at hg
  simp only [Bool.and_eq_true] at hg
  have h1 := allF_iff.1 hg.2 u.toNat (Nat.zero_le _) (by omega)
  have h2 := allF_iff.1 h1 v.toNat (Nat.zero_le _) (by omega)
  simp only [cellOk, Bool.and_eq_true, decide_eq_true_iff] at h2
  exact h2.2


structure Pos where
  t : Int
  x : Int
  y : Int
  deriving DecidableEq
structure Fac where
  id : Int
  kind : Int
  frm : ByteArray
  to : ByteArray
  p : Pos
  w : Int
  deriving DecidableEq
def poseV (p : Pos) : AV := .agg [.int .i64 p.t, .int .i64 p.x, .int .i64 p.y]
def facV (f : Fac) : AV := .agg [.int .i64 f.id, .int .i64 f.kind, .str f.frm, .str f.to, .int .i64 f.p.t, .int .i64 f.p.x, .int .i64 f.p.y, .int .i64 f.w]
theorem pose_plain (p : Pos) : Plain (poseV p) := ⟨rfl, .inr ⟨_, rfl, rfl⟩⟩
theorem fac_plain (f : Fac) : Plain (facV f) := ⟨rfl, .inr ⟨_, rfl, rfl⟩⟩
def poseOk (p : Pos) : Bool := decide (0 ≤ p.t ∧ p.t ≤ 3 ∧ -1000000 ≤ p.x ∧ p.x ≤ 1000000 ∧ -1000000 ≤ p.y ∧ p.y ≤ 1000000)
def facOk (f : Fac) : Bool :=
  decide (0 ≤ f.id ∧ f.id ≤ 99999) && poseOk f.p && decide (1 ≤ f.w ∧ f.w ≤ 9999) &&
  (if f.kind = 1 then decide (f.frm = ⟨#[]⟩) && poseNameM f.to
   else if f.kind = 2 ∨ f.kind = 4 then poseNameM f.frm && poseNameM f.to && decide (¬ f.frm = f.to)
   else if f.kind = 3 then poseNameM f.frm && landNameM f.to && decide (f.p.t = 0)
   else false)
def RF (v : AV) (f : Fac) : Prop := v = facV f
def FS (v : AV) (l : List Fac) : Prop := SlOf 8 RF v l
theorem FS.plain {v : AV} {l : List Fac} (h : FS v l) : Plain v := SlOf.plain h fun _ _ hr => by cases hr; rfl
def RStr (v : AV) (s : ByteArray) : Prop := v = .str s
def SS (v : AV) (l : List ByteArray) : Prop := SlOf 1 RStr v l
theorem SS.plain {v : AV} {l : List ByteArray} (h : SS v l) : Plain v := SlOf.plain h fun _ _ hr => by cases hr; rfl
theorem FS.get {st : St} {v : AV} {l : List Fac} (h : FS v l) {i : Nat} {x : Fac} (hx : l[i]? = some x) (kd : IntKind) : ∃ p, aIaddr 8 v (.int kd (i : Int)) = some (.eptr p) ∧ p = (facV x).cells ∧ aLoad true 8 st (.eptr p) = some (facV x) := by
  obtain ⟨e, rfl, h1⟩ := SlOf.idx h hx
  exact ⟨_, h1 kd, rfl, rfl⟩
theorem SS.get {st : St} {v : AV} {l : List ByteArray} (h : SS v l) {i : Nat} {x : ByteArray} (hx : l[i]? = some x) (kd : IntKind) : ∃ p, aIaddr 1 v (.int kd (i : Int)) = some p ∧ aLoad false 1 st p = some (.str x) := by
  obtain ⟨e, rfl, h1⟩ := SlOf.idx h hx
  exact ⟨_, h1 kd, rfl⟩

def facSm (f : Fac) : Prop := i64ok f.id ∧ i64ok f.kind ∧ f.frm.size ≤ 1048576 ∧ f.to.size ≤ 1048576 ∧ i64ok f.p.t ∧ i64ok f.p.x ∧ i64ok f.p.y ∧ i64ok f.w
def sm_FactorS (l : List Fac) : Prop := l.length ≤ 1048576 ∧ ∀ f ∈ l, facSm f

def big_FactorS (l : List Fac) : Prop := l.length ≤ maxLen ∧ ∀ f ∈ l, (f.frm.size ≤ maxLen ∧ f.to.size ≤ maxLen) ∧ i64ok f.id ∧ i64ok f.kind ∧ i64ok f.p.t ∧ i64ok f.p.x ∧ i64ok f.p.y ∧ i64ok f.w
theorem in_FactorS {v : AV} (h : elHas false [.sl true [.int .i64, .int .i64, .str, .str, .int .i64, .int .i64, .int .i64, .int .i64]] v) : ∃ x, FS v x ∧ big_FactorS x := by
  obtain ⟨l, h1, h2, h3⟩ := has_sla (R := RF) (P := fun f => (f.frm.size ≤ maxLen ∧ f.to.size ≤ maxLen) ∧ i64ok f.id ∧ i64ok f.kind ∧ i64ok f.p.t ∧ i64ok f.p.x ∧ i64ok f.p.y ∧ i64ok f.w) (arg_one h) fun cs hc => by
    simp only [hasL, CT.has] at hc
    obtain ⟨_, _, rfl, ⟨a, rfl, ha⟩, _, _, rfl, ⟨b, rfl, hb⟩, _, _, rfl, ⟨c, rfl, hc⟩, _, _, rfl, ⟨d, rfl, hd⟩, _, _, rfl, ⟨e, rfl, he⟩, _, _, rfl, ⟨f, rfl, hf⟩, _, _, rfl, ⟨g, rfl, hg⟩, _, _, rfl, ⟨w, rfl, hw⟩, rfl⟩ := hc
    exact ⟨⟨a, b, c, d, ⟨e, f, g⟩, w⟩, rfl, ⟨hc, hd⟩, i64_wf ha, i64_wf hb, i64_wf he, i64_wf hf, i64_wf hg, i64_wf hw⟩
  exact ⟨l, h1, h2, h3⟩
theorem FS.thB {st : St} {a b : Nat} {v T : AV} {l : List Fac} (h : FS T l) (k : Own st a b v T) : thB T = true ∧ dep T ≤ 1 :=
  slof_thB (d := 0) (by omega) h k fun _ _ _ _ _ _ h _ => by cases h; exact ⟨rfl, by simp [facV, dep, depL]⟩
theorem t_res_FactorS {st : St} {a b : Nat} {v T : AV} {l : List Fac} (h : FS T l) (k : Own st a b v T) : res st v = some T := k.res (h.thB k).1 (by have := (h.thB k).2; omega)
theorem t_pl_FactorS {T : AV} {l : List Fac} (h : FS T l) : Plain T := h.plain

def facSz (f : Fac) : Nat := f.frm.size + f.to.size
theorem szFactor_ok (f : Fac) (left : Int) (h1 : 0 ≤ left) (h2 : left ≤ 1048576) (hf : f.frm.size ≤ 9223372036854775807) (ht : f.to.size ≤ 9223372036854775807) (n : Nat) :
    Ok (L.call i_laws_szFactor [facV f, .int .i64 left] n) fun p => n ≤ p.2 ∧ ∃ z : Int, p.1 = .int .i64 z ∧ z ≤ left ∧ (0 ≤ z → z = left - facSz f) := by
  rw [call_laws_szFactor]
  simp only [facV, retV_one, retV_two, retV_three, mkNew_agg, mkNew_zc, ld_top, ld_old, ld_setN, sto_top, sto_old, sto_setN, faddr_ptr, faddr_eptr, ld_eptr, new_m', new_n', setN_m', setN_n', st0_m', st0_n', put_m', put_n', AV.cells, AV.one, AV.stor, ldCells, setElem, splice, List.all_cons, List.all_nil, List.length_cons, List.length_nil, List.drop, List.take, List.head?_cons, List.getElem?_cons_zero, List.getElem?_cons_succ, List.set_cons_zero, List.nil_append, List.cons_append, List.append_nil, List.drop_zero, List.drop_succ_cons, List.drop_nil, List.take_zero, List.take_succ_cons, List.take_nil, cond_true, cond_false, Bool.and_self, Bool.and_true, and_self, and_true, true_and, if_true, bind_some', Nat.add_zero, Nat.zero_add, Nat.reduceAdd, Nat.reduceLeDiff, ne_eq, not_false_eq_true, Nat.add_eq_zero_iff, Nat.reduceEqDiff, one_ne_zero', zero_ne_one', Nat.add_left_cancel_iff, Nat.le_refl, reduceCtorEq, bind_some', aBin_lss, aBin_leq, aBin_gtr, aBin_geq, aBin_eql, aBin_neq, aBin_add, aBin_sub, aBin_mul, aBin_seql, aBin_sneq, aBinb_eql, aBinb_neq, aUn_not, aUn_neg, aSlen_str, extr0, extr1, extr2]
  rw [wrap64 (x := left - f.frm.size) (by omega) (by omega)]
  refine Ok.cnd (fun h => ?_) fun h => ?_
  · exact ⟨_, rfl, Nat.le_succ _, -1, rfl, by omega, by omega⟩
  rw [wrap64 (by omega) (by omega)]
  refine Ok.cnd (fun h => ?_) fun h => ?_
  · exact ⟨_, rfl, Nat.le_succ _, -1, rfl, by omega, by omega⟩
  · exact ⟨_, rfl, Nat.le_succ _, _, rfl, by omega, by unfold facSz; omega⟩
theorem szFactorS_ok {v : AV} {l : List Fac} {left : Int} (h : FS v l) (hl : l.length ≤ maxLen) (hs : ∀ f ∈ l, f.frm.size ≤ maxLen ∧ f.to.size ≤ maxLen) (h1 : 0 ≤ left) (h2 : left ≤ 1048576) (n : Nat) :
    Ok (L.call i_laws_szFactorS [v, .int .i64 left] n) fun p => n ≤ p.2 ∧ ∃ z : Int, p.1 = .int .i64 z ∧ z ≤ 1048576 ∧ (0 ≤ z → (l.length : Int) ≤ left ∧ cntL facSz l ≤ left) := by
  have hl' : l.length ≤ 9223372036854775807 := hl
  rw [call_laws_szFactorS, SlOf.len h]
  simp only [bind_some', aBin_lss, aBin_leq, aBin_gtr, aBin_geq, aBin_eql, aBin_neq, aBin_add, aBin_sub, aBin_mul, aBin_seql, aBin_sneq, aBinb_eql, aBinb_neq, aUn_not, aUn_neg, aSlen_str, extr0, extr1, extr2]
  rw [wrap64 (by omega) (by omega)]
  refine Ok.cnd (fun h0 => ?_) fun h0 => ?_
  · exact ⟨_, rfl, Nat.le_refl _, -1, rfl, by omega, by omega⟩
  obtain ⟨n', e1, e2⟩ := sz_loop (c := facSz) (fun i left n => L.loop [0, 1, 5] [1, 4] b_laws_szFactorS_1 [v, .int .i64 left, .int .i64 i] (st0 n)) l (fun z n => (.exit 0, [.int .i64 z, .undef], st0 n)) (fun z n => (.ret, [.int .i64 z, .int .i64 (-1)], st0 n))
    (fun z n => by
      rw [loop_laws_szFactorS_1, SlOf.len h]
      simp only [bind_some', aBin_lss, cnd_dec, Int.lt_irrefl, if_false])
    (fun i x lf n hx g0 g1 => by
      have hi := (List.getElem?_eq_some_iff.1 hx).1
      have hm := hs x (List.mem_of_getElem? hx)
      have hm1 : x.frm.size ≤ 9223372036854775807 := hm.1
      have hm2 : x.to.size ≤ 9223372036854775807 := hm.2
      obtain ⟨p, q1, _, q2⟩ := FS.get (st := st0 n) h hx .i64
      obtain ⟨⟨r, n'⟩, c1, c2, z, c3, c4, c5⟩ := szFactor_ok x lf g0 g1 hm1 hm2 n
      simp only at c3; subst c3
      refine ⟨z, n', c2, c4, c5, ?_⟩
      rw [loop_laws_szFactorS_1, SlOf.len h]
      simp only [bind_some', aBin_lss, cnd_dec, q1, q2, aBin_add]
      rw [if_pos (by omega), call_plain (plain2 (fac_plain x) (plain_int _ _)) c1, bind_some']
      simp only [aBin_lss, bind_some', cnd_dec]
      rw [wrap64 (by omega) (by omega)]
      rfl)
    l.length 0 (left - l.length) n (by omega) (by omega) (by omega)
  rw [show ((0 : Nat) : Int) = 0 from rfl] at e2
  rcases e2 with ⟨z, z0, z1, e⟩ | ⟨z, z0, e⟩
  · rw [e, bind_some', k_laws_szFactorS_1_0]
    rw [List.drop_zero] at z1
    exact ⟨_, rfl, e1, z, rfl, by omega, fun _ => by omega⟩
  · rw [e, bind_some', k_laws_szFactorS_1_ret]
    exact ⟨_, rfl, e1, -1, rfl, by omega, by omega⟩

theorem cntL_mem {α : Type} {c : α → Nat} : ∀ {l : List α} {x : α}, x ∈ l → c x ≤ cntL c l
  | y :: l, x, h => by
    simp only [cntL]
    rcases List.mem_cons.1 h with rfl | h
    · omega
    · have := cntL_mem (c := c) h; omega
theorem t_sz_FactorS {v : AV} {x : List Fac} {left : Int} (h : FS v x) (b : big_FactorS x) (h1 : 0 ≤ left) (h2 : left ≤ 1048576) (n : Nat) :
    Ok (L.call i_laws_szFactorS [v, .int .i64 left] n) fun p => n ≤ p.2 ∧ ∃ z, p.1 = .int .i64 z ∧ z ≤ 1048576 ∧ (0 ≤ z → sm_FactorS x) :=
  (szFactorS_ok h b.1 (fun f hf => (b.2 f hf).1) h1 h2 n).mono fun p ⟨a, z, e, a1, a2⟩ => ⟨a, z, e, a1, fun hz => ⟨by have := (a2 hz).1; omega, fun f hf => by
    have h3 : f.frm.size + f.to.size ≤ cntL facSz x := cntL_mem (c := facSz) hf; have h4 := (a2 hz).2
    obtain ⟨_, i1, i2, i3, i4, i5, i6⟩ := b.2 f hf
    exact ⟨i1, i2, by omega, by omega, i3, i4, i5, i6⟩⟩⟩

theorem toPose_g (p : Pos) : Gives i_laws_toPose [poseV p] (poseV p) := by
  intro n
  rw [call_laws_toPose]
  simp only [poseV, retV_one, retV_two, retV_three, mkNew_agg, mkNew_zc, ld_top, ld_old, ld_setN, sto_top, sto_old, sto_setN, faddr_ptr, faddr_eptr, ld_eptr, new_m', new_n', setN_m', setN_n', st0_m', st0_n', put_m', put_n', AV.cells, AV.one, AV.stor, ldCells, setElem, splice, List.all_cons, List.all_nil, List.length_cons, List.length_nil, List.drop, List.take, List.head?_cons, List.getElem?_cons_zero, List.getElem?_cons_succ, List.set_cons_zero, List.nil_append, List.cons_append, List.append_nil, List.drop_zero, List.drop_succ_cons, List.drop_nil, List.take_zero, List.take_succ_cons, List.take_nil, cond_true, cond_false, Bool.and_self, Bool.and_true, and_self, and_true, true_and, if_true, bind_some', Nat.add_zero, Nat.zero_add, Nat.reduceAdd, Nat.reduceLeDiff, ne_eq, not_false_eq_true, Nat.add_eq_zero_iff, Nat.reduceEqDiff, one_ne_zero', zero_ne_one', Nat.add_left_cancel_iff, Nat.le_refl, reduceCtorEq, bind_some', aBin_lss, aBin_leq, aBin_gtr, aBin_geq, aBin_eql, aBin_neq, aBin_add, aBin_sub, aBin_mul, aBin_seql, aBin_sneq, aBinb_eql, aBinb_neq, aUn_not, aUn_neg, aSlen_str, extr0, extr1, extr2]
  refine Ok.ret (by first | rfl | (simp only [retV_one, retV_two, retV_three]; rfl)) (by (try simp only [new_n', setN_n', st0_n', put_n'] at *); first | omega | exact Nat.le_succ _ | exact Nat.le_refl _) ?_
  rfl
theorem toFactor_g (f : Fac) : Gives i_laws_toFactor [facV f] (facV f) := by
  intro n
  rw [call_laws_toFactor]
  simp only [facV, retV_one, retV_two, retV_three, mkNew_agg, mkNew_zc, ld_top, ld_old, ld_setN, sto_top, sto_old, sto_setN, faddr_ptr, faddr_eptr, ld_eptr, new_m', new_n', setN_m', setN_n', st0_m', st0_n', put_m', put_n', AV.cells, AV.one, AV.stor, ldCells, setElem, splice, List.all_cons, List.all_nil, List.length_cons, List.length_nil, List.drop, List.take, List.head?_cons, List.getElem?_cons_zero, List.getElem?_cons_succ, List.set_cons_zero, List.nil_append, List.cons_append, List.append_nil, List.drop_zero, List.drop_succ_cons, List.drop_nil, List.take_zero, List.take_succ_cons, List.take_nil, cond_true, cond_false, Bool.and_self, Bool.and_true, and_self, and_true, true_and, if_true, bind_some', Nat.add_zero, Nat.zero_add, Nat.reduceAdd, Nat.reduceLeDiff, ne_eq, not_false_eq_true, Nat.add_eq_zero_iff, Nat.reduceEqDiff, one_ne_zero', zero_ne_one', Nat.add_left_cancel_iff, Nat.le_refl, reduceCtorEq, bind_some', aBin_lss, aBin_leq, aBin_gtr, aBin_geq, aBin_eql, aBin_neq, aBin_add, aBin_sub, aBin_mul, aBin_seql, aBin_sneq, aBinb_eql, aBinb_neq, aUn_not, aUn_neg, aSlen_str, extr0, extr1, extr2]
  refine Ok.gives (toPose_g f.p) (pB rfl) fun m hm => ?_
  simp only [poseV, retV_one, retV_two, retV_three, mkNew_agg, mkNew_zc, ld_top, ld_old, ld_setN, sto_top, sto_old, sto_setN, faddr_ptr, faddr_eptr, ld_eptr, new_m', new_n', setN_m', setN_n', st0_m', st0_n', put_m', put_n', AV.cells, AV.one, AV.stor, ldCells, setElem, splice, List.all_cons, List.all_nil, List.length_cons, List.length_nil, List.drop, List.take, List.head?_cons, List.getElem?_cons_zero, List.getElem?_cons_succ, List.set_cons_zero, List.nil_append, List.cons_append, List.append_nil, List.drop_zero, List.drop_succ_cons, List.drop_nil, List.take_zero, List.take_succ_cons, List.take_nil, cond_true, cond_false, Bool.and_self, Bool.and_true, and_self, and_true, true_and, if_true, bind_some', Nat.add_zero, Nat.zero_add, Nat.reduceAdd, Nat.reduceLeDiff, ne_eq, not_false_eq_true, Nat.add_eq_zero_iff, Nat.reduceEqDiff, one_ne_zero', zero_ne_one', Nat.add_left_cancel_iff, Nat.le_refl, reduceCtorEq, bind_some', aBin_lss, aBin_leq, aBin_gtr, aBin_geq, aBin_eql, aBin_neq, aBin_add, aBin_sub, aBin_mul, aBin_seql, aBin_sneq, aBinb_eql, aBinb_neq, aUn_not, aUn_neg, aSlen_str, extr0, extr1, extr2]
  refine Ok.ret (by first | rfl | (simp only [retV_one, retV_two, retV_three]; rfl)) (by (try simp only [new_n', setN_n', st0_n', put_n'] at *); first | omega | exact Nat.le_succ _ | exact Nat.le_refl _) ?_
  rfl

theorem toFactorS_ok {x0 : AV} {l : List Fac} (h0 : FS x0 l) (hl : l.length ≤ 1048576) (n : Nat) : Ok (L.call i_laws_toFactorS [x0] n) fun p => n ≤ p.2 ∧ FS p.1 l ∧ New 1 n p.2 p.1 := by
  rw [call_laws_toFactorS, SlOf.len h0]
  simp only [bind_some']
  rw [mkMake_ok (s := 8) (by omega) rfl rfl (by omega)]
  obtain ⟨es, st', g1, g2, g3, g4, g5, g6, g7⟩ := to_loop (R := RF) (d := 0) (n0 := n + 1) (fun i st => L.loop [0, 3, 4] [2, 3] b_laws_toFactorS_1 [x0, .lsl 0 n 8 0 l.length, .int .i64 i] st) l n 8 0 zc_1
    (fun ds x k st hx hH hk => by
      have hi := (List.getElem?_eq_some_iff.1 hx).1
      obtain ⟨p, q1, q0, q2⟩ := FS.get (st := st) h0 hx .i64
      obtain ⟨⟨v, n'⟩, c1, c2, c3⟩ := toFactor_g x st.n
      simp only at c3; subst c3
      refine ⟨facV x, n', rfl, New.flat rfl rfl, c2, ?_⟩
      rw [loop_laws_toFactorS_1, SlOf.len h0]
      simp only [bind_some', aBin_lss, cnd_dec, q1, q2, aBin_add]
      rw [if_pos (by omega), wrap64 (by omega) (by omega), call_plain (plain1 (fac_plain x)) c1, bind_some', iaddr_mid (by omega), bind_some']
      have hs : aStore 8 (.ptr 0 n ds.length 0) (facV x) { st with n := n' } = some (({ st with n := n' } : St).put 0 ⟨n, 8, ds ++ facV x :: List.replicate k zc_1⟩) := by
        have hH' : ({ st with n := n' } : St).get 0 n = some ⟨n, 8, ds ++ zc_1 :: List.replicate k zc_1⟩ := get_H (st := { st with n := n' }) hH
        simp only [aStore, facV, AV.stor, AV.cells, List.all_cons, List.all_nil, AV.one, Bool.and_self, List.length_cons, List.length_nil, true_and, if_true, hH', Option.bind_some, mid_get, setElem, splice, Nat.reduceAdd, Nat.le_refl, mid_set]
        rfl
      simp only
      rw [hs]
      rfl)
    l.length [] ((st0 n).new 8 (List.replicate l.length zc_1)) (by simp) (new_H _ _ _) (Nat.le_refl _) NewL.nil rfl
  simp only [List.length_nil] at g1
  rw [show ((0 : Nat) : Int) = 0 from rfl] at g1
  show Ok ((L.loop [0, 3, 4] [2, 3] b_laws_toFactorS_1 [x0, .lsl 0 n 8 0 l.length, .int .i64 0] ((st0 n).new 8 (List.replicate l.length zc_1))).bind k_laws_toFactorS_1) _
  rw [g1, loop_laws_toFactorS_1, SlOf.len h0]
  simp only [bind_some', aBin_lss, cnd_dec, Int.lt_irrefl, if_false, k_laws_toFactorS_1_0]
  rw [← g3.length, resTup_lsl g2 fun e he => by obtain ⟨x, _, rfl⟩ := g3.mem e he; exact fac_plain x]
  have : n + 1 ≤ st'.n := g5
  exact ⟨_, rfl, by simp only; omega, ⟨es, .inr ⟨_, _, rfl⟩, g3⟩, New.sl g4 (Nat.le_refl _) (by simp only; omega) (by omega)⟩

theorem t_to_FactorS {v : AV} {x : List Fac} (h : FS v x) (s : sm_FactorS x) (n : Nat) : Ok (L.call i_laws_toFactorS [v] n) fun p => n ≤ p.2 ∧ FS p.1 x ∧ New 6 n p.2 p.1 :=
  (toFactorS_ok h s.1 n).mono fun p hp => ⟨hp.1, hp.2.1, hp.2.2.wide (by omega) (Nat.le_refl _) (Nat.le_refl _)⟩

theorem IS.thB {st : St} {a b : Nat} {v T : AV} {l : List Int} (h : IS T l) (k : Own st a b v T) : thB T = true ∧ dep T ≤ 1 :=
  slof_thB (d := 0) (by omega) h k fun _ _ _ _ _ _ h _ => by cases h; exact ⟨rfl, by simp [dep]⟩
theorem IS.res {st : St} {a b : Nat} {v T : AV} {l : List Int} (h : IS T l) (k : Own st a b v T) : res st v = some T := k.res (h.thB k).1 (by have := (h.thB k).2; omega)

def sm_IntS (x : List Int) : Prop := x.length ≤ 1048576
def big_IntS (x : List Int) : Prop := x.length ≤ maxLen
theorem in_IntS {v : AV} (h : elHas false [.sl false [.int .i64]] v) : ∃ x, IS v x ∧ big_IntS x := by
  obtain ⟨l, h1, h2, _⟩ := is_in (arg_one h)
  exact ⟨l, h1, h2⟩
theorem t_res_IntS {st : St} {a b : Nat} {v T : AV} {l : List Int} (h : IS T l) (k : Own st a b v T) : res st v = some T := h.res k
theorem t_pl_IntS {T : AV} {l : List Int} (h : IS T l) : Plain T := h.plain

theorem toIntS_ok {x0 : AV} {l : List Int} (h0 : IS x0 l) (hl : l.length ≤ 1048576) (n : Nat) : Ok (L.call i_laws_toIntS [x0] n) fun p => n ≤ p.2 ∧ IS p.1 l ∧ New 1 n p.2 p.1 := by
  rw [call_laws_toIntS, SlOf.len h0]
  simp only [bind_some']
  rw [mkMake_ok (s := 1) (z := (.int .i64 0)) (by omega) rfl rfl (by omega)]
  obtain ⟨es, st', g1, g2, g3, g4, g5, g6, g7⟩ := to_loop (R := RI) (d := 0) (n0 := n + 1) (fun i st => L.loop [0, 3, 4] [2, 3] b_laws_toIntS_1 [x0, .lsl 0 n 1 0 l.length, .int .i64 i] st) l n 1 0 (.int .i64 0)
    (fun ds x k st hx hH hk => by
      have hi := (List.getElem?_eq_some_iff.1 hx).1
      obtain ⟨e1, rfl, q1⟩ := SlOf.idx h0 hx
      refine ⟨.int .i64 x, st.n, rfl, New.flat rfl rfl, Nat.le_refl _, ?_⟩
      rw [loop_laws_toIntS_1, SlOf.len h0]
      simp only [bind_some', aBin_lss, cnd_dec, q1, ld_eptr, ld_one (e := .int .i64 x) rfl, aBin_add]
      rw [if_pos (by omega), wrap64 (by omega) (by omega), iaddr_mid (by omega), bind_some', store_mid1 hH rfl rfl]
      rfl)
    l.length [] ((st0 n).new 1 (List.replicate l.length (.int .i64 0))) (by simp) (new_H _ _ _) (Nat.le_refl _) NewL.nil rfl
  simp only [List.length_nil] at g1
  rw [show ((0 : Nat) : Int) = 0 from rfl] at g1
  show Ok ((L.loop [0, 3, 4] [2, 3] b_laws_toIntS_1 [x0, .lsl 0 n 1 0 l.length, .int .i64 0] ((st0 n).new 1 (List.replicate l.length (.int .i64 0)))).bind k_laws_toIntS_1) _
  rw [g1, loop_laws_toIntS_1, SlOf.len h0]
  simp only [bind_some', aBin_lss, cnd_dec, Int.lt_irrefl, if_false, k_laws_toIntS_1_0]
  rw [← g3.length, resTup_lsl g2 fun e he => by obtain ⟨x, _, rfl⟩ := g3.mem e he; exact ⟨rfl, .inl rfl⟩]
  have : n + 1 ≤ st'.n := g5
  exact ⟨_, rfl, by simp only; omega, ⟨es, .inr ⟨_, _, rfl⟩, g3⟩, New.sl g4 (Nat.le_refl _) (by simp only; omega) (by omega)⟩

theorem t_to_IntS {v : AV} {x : List Int} (h : IS v x) (s : sm_IntS x) (n : Nat) : Ok (L.call i_laws_toIntS [v] n) fun p => n ≤ p.2 ∧ IS p.1 x ∧ New 6 n p.2 p.1 :=
  (toIntS_ok h s n).mono fun p hp => ⟨hp.1, hp.2.1, hp.2.2.wide (by omega) (Nat.le_refl _) (Nat.le_refl _)⟩

theorem eqIntS_ok {x0 x1 : AV} {l1 l2 : List Int} (h0 : IS x0 l1) (h1 : IS x1 l2) (hb : l1.length ≤ 4294967296) (n : Nat) : Ok (L.call i_laws_eqIntS [x0, x1] n) fun p => n ≤ p.2 ∧ p.1 = .bool (decide (l1 = l2)) := by
  rw [call_laws_eqIntS, SlOf.len h0, SlOf.len h1]
  simp only [bind_some', aBin_neq, cnd_dec]
  by_cases hl : l1.length = l2.length
  · rw [if_neg (by omega)]
    obtain ⟨n', g1, g2⟩ := eq_loop (fun i n => L.loop [0, 1, 5] [4] b_laws_eqIntS_1 [x0, x1, .int .i64 i] (st0 n)) l1 l2 (fun n => (.exit 0, [.undef], st0 n)) (fun n => (.ret, [.bool false], st0 n)) hl
      (fun n => by
        rw [loop_laws_eqIntS_1, SlOf.len h0]
        simp only [bind_some', aBin_lss, cnd_dec, Int.lt_irrefl, if_false])
      (fun i x y n hx hy => by
        have hi := (List.getElem?_eq_some_iff.1 hx).1
        obtain ⟨e1, rfl, g1⟩ := SlOf.idx h0 hx
        obtain ⟨e2, rfl, g2⟩ := SlOf.idx h1 hy
        refine ⟨n, Nat.le_refl _, ?_⟩
        rw [loop_laws_eqIntS_1, SlOf.len h0]
        simp only [bind_some', aBin_lss, cnd_dec, g1, g2, ld_eptr, ld_one (e := .int .i64 x) rfl, ld_one (e := .int .i64 y) rfl, aBin_neq, aBin_add]
        rw [if_pos (by omega), wrap64 (by omega) (by omega)]
        simp only [ite_not]
        rfl)
      l1.length 0 n (by omega)
    rw [show ((0 : Nat) : Int) = 0 from rfl] at g2
    rw [g2]
    simp only [List.drop_zero]
    by_cases hx : l1 = l2
    · rw [if_pos hx, bind_some', k_laws_eqIntS_1_0, resTup_bool]
      exact ⟨_, rfl, g1, by simp [hx]⟩
    · rw [if_neg hx, bind_some', k_laws_eqIntS_1_ret, resTup_bool]
      exact ⟨_, rfl, g1, by simp [hx]⟩
  · rw [if_pos (by omega), resTup_bool]
    exact ⟨_, rfl, Nat.le_refl _, by rw [decide_eq_false fun e => hl (congrArg _ e)]⟩

theorem t_eq_IntS {v u : AV} {x y : List Int} (h : IS v x) (k : IS u y) (s : sm_IntS x) (n : Nat) : Ok (L.call i_laws_eqIntS [v, u] n) fun p => n ≤ p.2 ∧ p.1 = .bool (decide (x = y)) := eqIntS_ok h k (by unfold sm_IntS at s; omega) n

theorem eqPose_g (p q : Pos) : Gives i_laws_eqPose [poseV p, poseV q] (.bool (decide (p = q))) := by
  intro n
  rw [call_laws_eqPose]
  simp only [poseV, retV_one, retV_two, retV_three, mkNew_agg, mkNew_zc, ld_top, ld_old, ld_setN, sto_top, sto_old, sto_setN, faddr_ptr, faddr_eptr, ld_eptr, new_m', new_n', setN_m', setN_n', st0_m', st0_n', put_m', put_n', AV.cells, AV.one, AV.stor, ldCells, setElem, splice, List.all_cons, List.all_nil, List.length_cons, List.length_nil, List.drop, List.take, List.head?_cons, List.getElem?_cons_zero, List.getElem?_cons_succ, List.set_cons_zero, List.nil_append, List.cons_append, List.append_nil, List.drop_zero, List.drop_succ_cons, List.drop_nil, List.take_zero, List.take_succ_cons, List.take_nil, cond_true, cond_false, Bool.and_self, Bool.and_true, and_self, and_true, true_and, if_true, bind_some', Nat.add_zero, Nat.zero_add, Nat.reduceAdd, Nat.reduceLeDiff, ne_eq, not_false_eq_true, Nat.add_eq_zero_iff, Nat.reduceEqDiff, one_ne_zero', zero_ne_one', Nat.add_left_cancel_iff, Nat.le_refl, reduceCtorEq, bind_some', aBin_lss, aBin_leq, aBin_gtr, aBin_geq, aBin_eql, aBin_neq, aBin_add, aBin_sub, aBin_mul, aBin_seql, aBin_sneq, aBinb_eql, aBinb_neq, aUn_not, aUn_neg, aSlen_str, extr0, extr1, extr2]
  repeat' first
    | (refine Ok.cnd (fun h => ?_) fun h => ?_) | (refine Ok.cndn (fun h => ?_) fun h => ?_) | (refine Ok.cndb (fun h => ?_) fun h => ?_) | (refine Ok.cndnb (fun h => ?_) fun h => ?_)
  all_goals refine Ok.retb (by (try simp only [new_n', setN_n', st0_n', put_n'] at *); first | omega | exact Nat.le_succ _ | exact Nat.le_refl _) ?_
  all_goals (cases p; cases q; grind)
theorem eqFactor_g (f g : Fac) : Gives i_laws_eqFactor [facV f, facV g] (.bool (decide (f = g))) := by
  intro n
  rw [call_laws_eqFactor]
  simp only [facV, retV_one, retV_two, retV_three, mkNew_agg, mkNew_zc, ld_top, ld_old, ld_setN, sto_top, sto_old, sto_setN, faddr_ptr, faddr_eptr, ld_eptr, new_m', new_n', setN_m', setN_n', st0_m', st0_n', put_m', put_n', AV.cells, AV.one, AV.stor, ldCells, setElem, splice, List.all_cons, List.all_nil, List.length_cons, List.length_nil, List.drop, List.take, List.head?_cons, List.getElem?_cons_zero, List.getElem?_cons_succ, List.set_cons_zero, List.nil_append, List.cons_append, List.append_nil, List.drop_zero, List.drop_succ_cons, List.drop_nil, List.take_zero, List.take_succ_cons, List.take_nil, cond_true, cond_false, Bool.and_self, Bool.and_true, and_self, and_true, true_and, if_true, bind_some', Nat.add_zero, Nat.zero_add, Nat.reduceAdd, Nat.reduceLeDiff, ne_eq, not_false_eq_true, Nat.add_eq_zero_iff, Nat.reduceEqDiff, one_ne_zero', zero_ne_one', Nat.add_left_cancel_iff, Nat.le_refl, reduceCtorEq, bind_some', aBin_lss, aBin_leq, aBin_gtr, aBin_geq, aBin_eql, aBin_neq, aBin_add, aBin_sub, aBin_mul, aBin_seql, aBin_sneq, aBinb_eql, aBinb_neq, aUn_not, aUn_neg, aSlen_str, extr0, extr1, extr2]
  repeat' first
    | (refine Ok.cnd (fun h => ?_) fun h => ?_) | (refine Ok.cndn (fun h => ?_) fun h => ?_) | (refine Ok.cndb (fun h => ?_) fun h => ?_) | (refine Ok.cndnb (fun h => ?_) fun h => ?_)
    | (refine Ok.gives (eqPose_g f.p g.p) (pB rfl) fun m hm => ?_; (simp only [retV_one, retV_two, retV_three, mkNew_agg, mkNew_zc, ld_top, ld_old, ld_setN, sto_top, sto_old, sto_setN, faddr_ptr, faddr_eptr, ld_eptr, new_m', new_n', setN_m', setN_n', st0_m', st0_n', put_m', put_n', AV.cells, AV.one, AV.stor, ldCells, setElem, splice, List.all_cons, List.all_nil, List.length_cons, List.length_nil, List.drop, List.take, List.head?_cons, List.getElem?_cons_zero, List.getElem?_cons_succ, List.set_cons_zero, List.nil_append, List.cons_append, List.append_nil, List.drop_zero, List.drop_succ_cons, List.drop_nil, List.take_zero, List.take_succ_cons, List.take_nil, cond_true, cond_false, Bool.and_self, Bool.and_true, and_self, and_true, true_and, if_true, bind_some', Nat.add_zero, Nat.zero_add, Nat.reduceAdd, Nat.reduceLeDiff, ne_eq, not_false_eq_true, Nat.add_eq_zero_iff, Nat.reduceEqDiff, one_ne_zero', zero_ne_one', Nat.add_left_cancel_iff, Nat.le_refl, reduceCtorEq, bind_some', aBin_lss, aBin_leq, aBin_gtr, aBin_geq, aBin_eql, aBin_neq, aBin_add, aBin_sub, aBin_mul, aBin_seql, aBin_sneq, aBinb_eql, aBinb_neq, aUn_not, aUn_neg, aSlen_str, extr0, extr1, extr2]))
  all_goals refine Ok.retb (by (try simp only [new_n', setN_n', st0_n', put_n'] at *); first | omega | exact Nat.le_succ _ | exact Nat.le_refl _) ?_
  all_goals (cases f; cases g; grind)

theorem eqFactorS_ok {x0 x1 : AV} {l1 l2 : List Fac} (h0 : FS x0 l1) (h1 : FS x1 l2) (hb : l1.length ≤ 4294967296) (n : Nat) : Ok (L.call i_laws_eqFactorS [x0, x1] n) fun p => n ≤ p.2 ∧ p.1 = .bool (decide (l1 = l2)) := by
  rw [call_laws_eqFactorS, SlOf.len h0, SlOf.len h1]
  simp only [bind_some', aBin_neq, cnd_dec]
  by_cases hl : l1.length = l2.length
  · rw [if_neg (by omega)]
    obtain ⟨n', g1, g2⟩ := eq_loop (fun i n => L.loop [0, 1, 5] [4] b_laws_eqFactorS_1 [x0, x1, .int .i64 i] (st0 n)) l1 l2 (fun n => (.exit 0, [.undef], st0 n)) (fun n => (.ret, [.bool false], st0 n)) hl
      (fun n => by
        rw [loop_laws_eqFactorS_1, SlOf.len h0]
        simp only [bind_some', aBin_lss, cnd_dec, Int.lt_irrefl, if_false])
      (fun i x y n hx hy => by
        have hi := (List.getElem?_eq_some_iff.1 hx).1
        obtain ⟨p, q1, _, q2⟩ := FS.get (st := st0 n) h0 hx .i64
        obtain ⟨p', q1', _, q2'⟩ := FS.get (st := st0 n) h1 hy .i64
        obtain ⟨⟨v, n'⟩, c1, c2, c3⟩ := eqFactor_g x y n
        simp only at c3; subst c3
        refine ⟨n', c2, ?_⟩
        rw [loop_laws_eqFactorS_1, SlOf.len h0]
        simp only [bind_some', aBin_lss, cnd_dec, q1, q2, q1', q2', aBin_add]
        rw [if_pos (by omega), wrap64 (by omega) (by omega), call_plain (plain2 (fac_plain x) (fac_plain y)) c1, bind_some']
        simp only [aUn_not, bind_some', cnd_ndec]
        rfl)
      l1.length 0 n (by omega)
    rw [show ((0 : Nat) : Int) = 0 from rfl] at g2
    rw [g2]
    simp only [List.drop_zero]
    by_cases hx : l1 = l2
    · rw [if_pos hx, bind_some', k_laws_eqFactorS_1_0, resTup_bool]
      exact ⟨_, rfl, g1, by simp [hx]⟩
    · rw [if_neg hx, bind_some', k_laws_eqFactorS_1_ret, resTup_bool]
      exact ⟨_, rfl, g1, by simp [hx]⟩
  · rw [if_pos (by omega), resTup_bool]
    exact ⟨_, rfl, Nat.le_refl _, by rw [decide_eq_false fun e => hl (congrArg _ e)]⟩

theorem t_eq_FactorS {v u : AV} {x y : List Fac} (h : FS v x) (k : FS u y) (s : sm_FactorS x) (n : Nat) : Ok (L.call i_laws_eqFactorS [v, u] n) fun p => n ≤ p.2 ∧ p.1 = .bool (decide (x = y)) := eqFactorS_ok h k (by have := s.1; omega) n

def dgt (k : Int) : ByteArray := ⟨[UInt8.ofNat (IntKind.wrap .u8 (IntKind.wrap .i64 (48 + k.tmod 10))).toNat].toArray⟩
def textF : Nat → Int → ByteArray → ByteArray
  | 0, _, acc => acc
  | f + 1, k, acc => if 0 < k then textF f (k.tdiv 10) (dgt k ++ acc) else acc
def mkStr (_ : ByteArray) (k : Int) : ByteArray := if k ≤ 0 then ⟨#[109, 48]⟩ else ⟨#[109]⟩ ++ textF 20 k ⟨#[]⟩
theorem textF_size : ∀ (f : Nat) (k : Int) (acc : ByteArray), (textF f k acc).size ≤ acc.size + f
  | 0, _, _ => Nat.le_refl _
  | f + 1, k, acc => by
    unfold textF
    split
    · have := textF_size f (k.tdiv 10) (dgt k ++ acc)
      have e : (dgt k ++ acc).size = 1 + acc.size := by rw [ByteArray.size_append]; rfl
      omega
    · omega
theorem mkStr_size (x : ByteArray) (k : Int) : (mkStr x k).size ≤ 1048576 := by
  unfold mkStr
  split
  · decide
  · have := textF_size 20 k ⟨#[]⟩
    rw [ByteArray.size_append]
    have e : (⟨#[109]⟩ : ByteArray).size = 1 := rfl
    have e2 : (⟨#[]⟩ : ByteArray).size = 0 := rfl
    omega
theorem markText_loop (n0 : Nat) : ∀ (f : Nat) (k : Int) (acc : ByteArray) (st : St), 0 ≤ k → k ≤ 9223372036854775807 → k < 10 ^ f → acc.size + f ≤ 1048576 → n0 ≤ st.n →
    ∃ st', n0 ≤ st'.n ∧ L.loop [0, 3] [2, 3] b_laws_markText_1 [.int .i64 k, .str acc] st = some (.exit 0, [.undef, .str (textF f k acc)], st')
  | 0, k, acc, st, h0, hM, h1, h2, hn => by
    have : k = 0 := by omega
    subst this
    rw [loop_laws_markText_1]
    simp only [bind_some', aBin_lss, aBin_leq, aBin_gtr, aBin_geq, aBin_eql, aBin_neq, aBin_add, aBin_sub, aBin_mul, aBin_seql, aBin_sneq, aBinb_eql, aBinb_neq, aUn_not, aUn_neg, aSlen_str, extr0, extr1, extr2, cnd_dec, Int.lt_irrefl, if_false]
    exact ⟨st, hn, rfl⟩
  | f + 1, k, acc, st, h0, hM, h1, h2, hn => by
    rw [loop_laws_markText_1]
    simp only [bind_some', aBin_lss, aBin_leq, aBin_gtr, aBin_geq, aBin_eql, aBin_neq, aBin_add, aBin_sub, aBin_mul, aBin_seql, aBin_sneq, aBinb_eql, aBinb_neq, aUn_not, aUn_neg, aSlen_str, extr0, extr1, extr2, cnd_dec]
    by_cases hk : 0 < k
    · rw [if_pos hk]
      have hq : k.tdiv 10 = k / 10 := Int.tdiv_eq_ediv_of_nonneg h0
      have hlt : k / 10 < 10 ^ f := by
        have : (10 : Int) ^ (f + 1) = 10 ^ f * 10 := by rw [Int.pow_succ]
        omega
      obtain ⟨st', g1, g2⟩ := markText_loop n0 f (k.tdiv 10) (dgt k ++ acc) (st.new 1 [.int .u8 (IntKind.wrap .u8 (IntKind.wrap .i64 (48 + k.tmod 10)))]) (by omega) (by omega) (by omega) (by
        have e : (dgt k ++ acc).size = 1 + acc.size := by rw [ByteArray.size_append]; rfl
        omega) (Nat.le_trans hn (Nat.le_succ _))
      refine ⟨st', g1, ?_⟩
      have hb : aB2s (st.new 1 [.int .u8 (IntKind.wrap .u8 (IntKind.wrap .i64 (48 + k.tmod 10)))]) (.lsl st.m st.n 1 0 1) = some (.str (dgt k)) := by
        have := (Loc.new (st := st) (s := 1) (es := [.int .u8 (IntKind.wrap .u8 (IntKind.wrap .i64 (48 + k.tmod 10)))])).elems
        unfold aB2s
        rw [show (AV.lsl st.m st.n 1 0 1) = .lsl st.m st.n 1 0 [AV.int .u8 (IntKind.wrap .u8 (IntKind.wrap .i64 (48 + k.tmod 10)))].length from rfl, this]
        simp [bytesOf, stride, dgt]
      have ha : aBin .add (.str (dgt k)) (.str acc) = some (.str (dgt k ++ acc)) := by
        have e : (dgt k).size = 1 := rfl
        simp only [aBin, sBin]
        rw [if_pos (by omega)]
      rw [aBin_rem _ _ _ (show (10 : Int) ≠ 0 by omega), bind_some']
      simp only [aBin_add, bind_some', aConv_int]
      rw [lit1 (s := 1) (z := .int .u8 0) rfl rfl (by omega) rfl rfl, hb, bind_some', ha, bind_some', aBin_quo _ _ _ (show (10 : Int) ≠ 0 by omega), bind_some', wrap64 (by omega) (by omega), g2]
      simp only [textF, if_pos hk]
    · rw [if_neg hk]
      simp only [textF, if_neg hk]
      exact ⟨st, hn, rfl⟩
theorem markText_g (x : ByteArray) (k : Int) (hk : k ≤ 9223372036854775807) : Gives i_laws_markText [.int .i64 k] (.str (mkStr x k)) := by
  intro n
  rw [call_laws_markText]
  simp only [bind_some', aBin_lss, aBin_leq, aBin_gtr, aBin_geq, aBin_eql, aBin_neq, aBin_add, aBin_sub, aBin_mul, aBin_seql, aBin_sneq, aBinb_eql, aBinb_neq, aUn_not, aUn_neg, aSlen_str, extr0, extr1, extr2]
  refine Ok.cnd (fun h => ?_) fun h => ?_
  · refine Ok.ret (by first | rfl | (simp only [retV_one, retV_two, retV_three]; rfl)) (by (try simp only [new_n', setN_n', st0_n', put_n'] at *); first | omega | exact Nat.le_succ _ | exact Nat.le_refl _) ?_
    simp only [mkStr, if_pos h]
  · obtain ⟨st', g1, g2⟩ := markText_loop n 20 k ⟨#[]⟩ (st0 n) (by omega) hk (by omega) (by decide) (Nat.le_refl _)
    rw [g2, bind_some', k_laws_markText_1_0]
    have hs := textF_size 20 k ⟨#[]⟩
    have ha : aBin .add (.str ⟨#[109]⟩) (.str (textF 20 k ⟨#[]⟩)) = some (.str (⟨#[109]⟩ ++ textF 20 k ⟨#[]⟩)) := by
      have e : (⟨#[109]⟩ : ByteArray).size = 1 := rfl
      have e2 : (⟨#[]⟩ : ByteArray).size = 0 := rfl
      simp only [aBin, sBin]
      rw [if_pos (by omega)]
    rw [ha, bind_some']
    refine Ok.ret rfl g1 ?_
    simp only [mkStr, if_neg h]

def mkFac (f : Fac) (k : Int) : Fac := ⟨k, k + 1, mkStr f.frm (k + 2), mkStr f.to (k + 3), ⟨k + 4, k + 5, k + 6⟩, k + 7⟩
theorem markFactorS_inl : Marks L i_laws_markFactorS FS FS (mkL mkFac fun _ => 8) (cntL fun _ => 8) (fun l => l.length ≤ 1048576) := by
  intro st a b v T l k hO hb hT hbig hk hc
  rw [inl_laws_markFactorS]
  rcases hO.slice hT with ⟨rfl, rfl, rfl⟩ | ⟨t, j, vs, es, rfl, rfl, h1, h2, h3, h4, h5⟩
  · rw [loop_laws_markFactorS_1]
    simp only [aLen, bind_some', aBin_lss, cnd_dec, Int.lt_irrefl, if_false, k_laws_markFactorS_1i_0]
    exact ⟨_, rfl, by simp [cntL], Keep.refl _ _ _, .nils, hO, hT⟩
  · have hlen := h5.length; have hlen2 := h4.length
    obtain ⟨st', rv', rT', e, g1, g2, g3, g4, g5, g6⟩ := mark_loop (Lp := fun i k st => L.loop [0, 1, 5] [1, 4] b_laws_markFactorS_1 [.lsl j t 8 0 l.length, .int .i64 k, .int .i64 i] st) (N := l.length) (j := j) (t := t) (s := 8) (R := RF) (R' := RF) (mk := mkFac) (c := fun _ => 8)
      (fun d v rv T x x0 y0 k st hH hO hR hy hj hk hc hdl => by
        cases hR
        have hv := hO.flat (by simp [facV, dep, depL])
        subst hv
        obtain ⟨⟨r1, n1⟩, c1, d1, d2⟩ := markText_g x.frm (k + 2) (by omega) st.n
        simp only at d2; subst d2
        obtain ⟨⟨r2, n2⟩, c2, d3, d4⟩ := markText_g x.to (k + 3) (by omega) n1
        simp only at d4; subst d4
        have d1' : st.n ≤ n1 := d1
        have d3' : n1 ≤ n2 := d3
        refine ⟨(st.put j ⟨t, 8, d ++ facV (mkFac x k) :: rv⟩).setN n2, facV (mkFac x k), facV (mkFac x k), ?_, by simp only [St.setN]; exact put_H _ _ _, flat_own hO.le rfl rfl, rfl, fun i _ h _ => by simp only [St.setN]; exact put_H_ne h, Nat.le_refl _, by simp only [setN_n]; omega⟩
        simp only
        rw [loop_laws_markFactorS_1]
        have ia : aIaddr 8 (.lsl j t 8 0 l.length) (.int .i64 (d.length : Nat)) = some (.ptr j t d.length 0) := iaddr_mid (by omega)
        simp only [aLen, bind_some', aBin_lss, cnd_dec, aBin_add, ia, faddr_ptr, Nat.zero_add]
        rw [if_pos (by omega)]
        have w1 : IntKind.wrap .i64 (k + 1) = k + 1 := wrap64 (by omega) (by omega)
        have w2 : IntKind.wrap .i64 (k + 1 + 1) = k + 2 := by rw [wrap64 (by omega) (by omega)]; omega
        have w3 : IntKind.wrap .i64 (k + 2 + 1) = k + 3 := by rw [wrap64 (by omega) (by omega)]; omega
        have w4 : IntKind.wrap .i64 (k + 3 + 1) = k + 4 := by rw [wrap64 (by omega) (by omega)]; omega
        have w5 : IntKind.wrap .i64 (k + 4 + 1) = k + 5 := by rw [wrap64 (by omega) (by omega)]; omega
        have w6 : IntKind.wrap .i64 (k + 5 + 1) = k + 6 := by rw [wrap64 (by omega) (by omega)]; omega
        have w7 : IntKind.wrap .i64 (k + 6 + 1) = k + 7 := by rw [wrap64 (by omega) (by omega)]; omega
        have w8 : IntKind.wrap .i64 (k + 7 + 1) = k + 8 := by rw [wrap64 (by omega) (by omega)]; omega
        have w9 : IntKind.wrap .i64 ((d.length : Int) + 1) = (d.length : Int) + 1 := wrap64 (by omega) (by omega)
        simp only [w1, w2, w3, w4, w5, w6, w7, w8, w9]
        have sto : ∀ (cs : List AV) (m f : Nat) (v : AV), f < cs.length → v.one = true → aStore 1 (.ptr j t d.length f) v ((st.put j ⟨t, 8, d ++ .agg cs :: rv⟩).setN m) = some ((st.put j ⟨t, 8, d ++ .agg (cs.set f v) :: rv⟩).setN m) := fun cs m f v hf hv => by
          have := store_mid (st := (st.put j ⟨t, 8, d ++ .agg cs :: rv⟩).setN m) (v := v) (put_H _ _ _) hf hv
          rw [this]
          have e := put_put st j ⟨t, 8, d ++ .agg cs :: rv⟩ ⟨t, 8, d ++ .agg (cs.set f v) :: rv⟩
          rw [← e]; rfl
        have cl : ∀ (S : St) (m m' : Nat) (q : Int) (r : AV), L.call i_laws_markText [.int .i64 q] m = some (r, m') → clV L i_laws_markText 0 [.int .i64 q] (S.setN m) = some (r, S.setN m') := fun S m m' q r h => call_plain (st := S.setN m) (plain1 (plain_int _ _)) h
        rw [store_mid (v := .int .i64 k) hH (by simp) rfl, bind_some', show ∀ A, st.put j A = (st.put j A).setN st.n from fun _ => rfl, sto _ _ _ _ (by simp) rfl, bind_some', cl _ _ _ _ _ c1, bind_some', sto _ _ _ _ (by simp) rfl, bind_some', cl _ _ _ _ _ c2, bind_some', sto _ _ _ _ (by simp) rfl, bind_some',
          sto _ _ _ _ (by simp) rfl, bind_some', sto _ _ _ _ (by simp) rfl, bind_some', sto _ _ _ _ (by simp) rfl, bind_some', sto _ _ _ _ (by simp) rfl]
        rfl)
      l [] vs es a k st h1 h4 h5 (by omega) hk hc (by simp)
    simp only [List.length_nil, Nat.zero_add] at e
    rw [show ((0 : Nat) : Int) = 0 from rfl] at e
    rw [e, loop_laws_markFactorS_1]
    simp only [aLen, bind_some', aBin_lss, cnd_dec, Int.lt_irrefl, if_false, k_laws_markFactorS_1i_0]
    refine ⟨_, rfl, rfl, ⟨fun i hi hn => g4 i hi (by omega), g5, g6⟩, .sl t 0 8 rT', ?_, ?_⟩
    · simp only [Own]
      have := g3.length; rw [mkL_length] at this
      exact ⟨by trivial, j, rv', by rw [this], by simpa using g1, h2, h3, g2⟩
    · exact ⟨rT', .inr ⟨_, _, rfl⟩, g3⟩

def mk_FactorS (x : List Fac) (k : Int) : List Fac := mkL mkFac (fun _ => 8) x k
def cnt_FactorS (x : List Fac) : Nat := cntL (fun _ => 8) x
theorem cntB_FactorS {x : List Fac} (s : sm_FactorS x) : cnt_FactorS x ≤ 2000000000000000 := by
  have : ∀ l : List Fac, cntL (fun _ => 8) l = 8 * l.length := by
    intro l
    induction l with
    | nil => rfl
    | cons y l ih => simp only [cntL, ih, List.length_cons]; omega
  have h1 := s.1
  unfold cnt_FactorS; rw [this]; omega
theorem t_mark_FactorS : Marks L i_laws_markFactorS FS FS mk_FactorS cnt_FactorS sm_FactorS := fun st a b v T x k h1 h2 h3 h4 h5 h6 => markFactorS_inl st a b v T x k h1 h2 h3 h4.1 h5 h6

def mk_IntS (x : List Int) (k : Int) : List Int := mkL iota (fun _ => 1) x k
def cnt_IntS (x : List Int) : Nat := cntL (fun _ => 1) x
theorem cntB_IntS {x : List Int} (s : sm_IntS x) : cnt_IntS x ≤ 2000000000000000 := by unfold cnt_IntS sm_IntS at *; rw [cnt_one]; omega

theorem markIntS_inl : Marks L i_laws_markIntS IS IS (mkL iota fun _ => 1) (cntL fun _ => 1) (fun _ => True) := by
  intro st a b v T l k hO hb hT _ hk hc
  have hcl := cnt_one l
  rw [inl_laws_markIntS]
  rcases hO.slice hT with ⟨rfl, rfl, rfl⟩ | ⟨t, j, vs, es, rfl, rfl, h1, h2, h3, h4, h5⟩
  · rw [loop_laws_markIntS_1]
    simp only [aLen, bind_some', aBin_lss, cnd_dec, Int.lt_irrefl, if_false, k_laws_markIntS_1i_0]
    exact ⟨_, rfl, by simp [cntL], Keep.refl _ _ _, .nils, hO, hT⟩
  · have hlen := h5.length; have hlen2 := h4.length
    obtain ⟨st', rv', rT', e, g1, g2, g3, g4, g5, g6⟩ := mark_loop (Lp := fun i k st => L.loop [0, 1, 5] [1, 4] b_laws_markIntS_1 [.lsl j t 1 0 l.length, .int .i64 k, .int .i64 i] st) (N := l.length) (j := j) (t := t) (s := 1) (R := RI) (R' := RI) (mk := iota) (c := fun _ => 1)
      (fun d v rv T x x0 y0 k st hH hO hR hy hj hk hc hdl => by
        cases hR
        have hv := hO.flat (by simp [dep])
        subst hv
        refine ⟨st.put j ⟨t, 1, d ++ .int .i64 k :: rv⟩, .int .i64 k, .int .i64 k, ?_, put_H _ _ _, flat_own hO.le rfl rfl, rfl, fun i _ h _ => put_H_ne h, Nat.le_refl _, Nat.le_refl _⟩
        simp only
        rw [loop_laws_markIntS_1]
        simp only [aLen, bind_some', aBin_lss, cnd_dec, aBin_add]
        rw [if_pos (by omega), iaddr_mid (by omega), bind_some', store_mid1 hH rfl rfl, bind_some', wrap64 (by omega) (by omega), wrap64 (by omega) (by omega)]
        rfl)
      l [] vs es a k st h1 h4 h5 (by omega) hk hc (by simp)
    simp only [List.length_nil, Nat.zero_add] at e
    rw [show ((0 : Nat) : Int) = 0 from rfl] at e
    rw [e, loop_laws_markIntS_1]
    simp only [aLen, bind_some', aBin_lss, cnd_dec, Int.lt_irrefl, if_false, k_laws_markIntS_1i_0]
    refine ⟨_, rfl, rfl, ⟨fun i hi hn => g4 i hi (by omega), g5, g6⟩, .sl t 0 1 rT', ?_, ?_⟩
    · simp only [Own]
      have := g3.length; rw [mkL_length] at this
      exact ⟨by trivial, j, rv', by rw [this], by simpa using g1, h2, h3, g2⟩
    · exact ⟨rT', .inr ⟨_, _, rfl⟩, g3⟩

theorem t_mark_IntS : Marks L i_laws_markIntS IS IS mk_IntS cnt_IntS sm_IntS := fun st a b v T x k h1 h2 h3 _ h5 h6 => markIntS_inl st a b v T x k h1 h2 h3 trivial h5 h6

theorem heldIntS_ok : Helds i_laws_heldIntS IS (mkL iota fun _ => 1) (cntL fun _ => 1) := by
  intro v l k n hv hk hc
  obtain ⟨es, h1, h2⟩ := hv
  have hlen := h2.length
  rw [mkL_length] at hlen
  have hcl := cnt_one l
  rw [call_laws_heldIntS]
  have A : ∀ {st : St}, Arr st 1 v es := h1.arr
  obtain ⟨n', g1, g2⟩ := held_loop (R := RI) (mk := iota) (c := fun _ => 1) (fun i k n => L.loop [0, 1, 5] [1, 4] b_laws_heldIntS_1 [v, .int .i64 k, .int .i64 i] (st0 n)) es
    (fun i e x k n hi he hk hc => by
      have hi' := (List.getElem?_eq_some_iff.1 hi).1
      obtain ⟨p, q1, q2⟩ := (A (st := st0 n)).at hi' .i64
      have he' : es[i] = .int .i64 k := by rw [List.getElem?_eq_getElem hi'] at hi; cases hi; exact he
      refine ⟨n, Nat.le_refl _, ?_⟩
      rw [loop_laws_heldIntS_1, (A (st := st0 n)).len]
      simp only [bind_some', aBin_lss, cnd_dec, q1, q2, he', ld_one (e := .int .i64 k) rfl, aBin_neq, not_true_eq_false, if_false, aBin_add]
      rw [if_pos (by omega), wrap64 (by omega) (by omega), wrap64 (by omega) (by omega)]; rfl)
    l 0 k n (by simpa using h2) (Nat.zero_le _) hk hc
  rw [show ((0 : Nat) : Int) = 0 from rfl] at g2
  rw [g2, loop_laws_heldIntS_1, (A (st := st0 n')).len]
  simp only [bind_some', aBin_lss, cnd_dec, Int.lt_irrefl, if_false, k_laws_heldIntS_1_0, resTup_int]
  exact ⟨_, rfl, g1, rfl⟩

theorem t_held_IntS : Helds i_laws_heldIntS IS mk_IntS cnt_IntS := heldIntS_ok

theorem List.findIdx?_le {α : Type} {l : List α} {p : α → Bool} {i : Nat} (h : l.findIdx? p = some i) : i < l.length := by
  rw [List.findIdx?_eq_some_iff_getElem] at h; exact h.1
def fidx {α : Type} (p : α → Bool) (l : List α) : Int := match l.findIdx? p with | some i => (i : Int) | none => -1
theorem fidx_none {α : Type} {p : α → Bool} {l : List α} (h : ∀ (j : Nat) x, l[j]? = some x → p x = false) : fidx p l = -1 := by
  have : l.findIdx? p = none := by
    rw [List.findIdx?_eq_none_iff]
    intro x hx
    obtain ⟨j, hj, rfl⟩ := List.mem_iff_getElem.1 hx
    exact h j _ (List.getElem?_eq_getElem hj)
  simp [fidx, this]
theorem fidx_some {α : Type} {p : α → Bool} {l : List α} {i : Nat} {x : α} (hx : l[i]? = some x) (hp : p x = true) (h : ∀ (j : Nat) y, j < i → l[j]? = some y → p y = false) : fidx p l = i := by
  obtain ⟨hi, e⟩ := List.getElem?_eq_some_iff.1 hx
  have : l.findIdx? p = some i := by
    rw [List.findIdx?_eq_some_iff_getElem]
    exact ⟨hi, by rw [e]; exact hp, fun j hj => by rw [h j _ hj (List.getElem?_eq_getElem (by omega))]; exact Bool.false_ne_true⟩
  simp [fidx, this]
theorem fidx_range {α : Type} (p : α → Bool) (l : List α) : -1 ≤ fidx p l ∧ fidx p l < l.length := by
  unfold fidx
  cases h : l.findIdx? p with
  | none => simp only; omega
  | some i => have := List.findIdx?_le h; simp only; omega
/-- a search: found at i, or not at all -/
theorem find_loop {α ρ : Type} {p : α → Bool} {l : List α} {n0 : Nat} {Q : ρ → Prop} (Lp : Nat → St → Option ρ) (l' : Nat) (hl : l' = l.length)
    (he : ∀ st, n0 ≤ st.n → fidx p l = -1 → Ok (Lp l' st) Q)
    (hs : ∀ (i : Nat) (x : α) (st : St), l[i]? = some x → n0 ≤ st.n → (p x = true → fidx p l = i → True) → (p x = false → ∀ st', n0 ≤ st'.n → Ok (Lp (i + 1) st') Q) → (p x = true → fidx p l = i) → Ok (Lp i st) Q) :
    ∀ st, n0 ≤ st.n → Ok (Lp 0 st) Q := by
  subst hl
  intro st hn
  refine Ok.loop (σ := St) (Lp := Lp) (I := fun i s => n0 ≤ s.n ∧ ∀ (j : Nat) y, j < i → l[j]? = some y → p y = false) l.length (fun s hs => he s hs.1 (fidx_none fun j x hx => hs.2 j x (List.getElem?_eq_some_iff.1 hx).1 hx)) (fun i s hi hI ih => ?_) l.length 0 st (by omega) ⟨hn, fun j y hj => by omega⟩
  have hx := List.getElem?_eq_getElem hi
  refine hs i _ s hx hI.1 (fun _ _ => trivial) (fun hp s' hs' => ih s' ⟨hs', fun j y hj hy => ?_⟩) (fun hp => fidx_some hx hp hI.2)
  by_cases e : j = i
  · subst e; rw [hx] at hy; cases hy; exact hp
  · exact hI.2 j y (by omega) hy

def hasS (l : List ByteArray) (s : ByteArray) : Bool := l.any fun x => decide (x = s)
theorem hasS_fidx (l : List ByteArray) (s : ByteArray) : hasS l s = decide (fidx (fun x => decide (x = s)) l ≠ -1) := by
  rw [Bool.eq_iff_iff, decide_eq_true_iff]
  simp only [hasS, List.any_eq_true, decide_eq_true_iff]
  unfold fidx
  cases hq : l.findIdx? (fun x => decide (x = s)) with
  | none =>
    rw [List.findIdx?_eq_none_iff] at hq
    simp only [ne_eq, not_true_eq_false, iff_false]
    rintro ⟨x, hx, e⟩
    have := hq x hx; simp [e] at this
  | some i =>
    rw [List.findIdx?_eq_some_iff_getElem] at hq
    obtain ⟨h1, h2, _⟩ := hq
    simp only
    refine iff_of_true ⟨l[i], List.getElem_mem h1, by simpa using h2⟩ (by omega)
def nmAdd (o : List ByteArray) (s : ByteArray) : List ByteArray := if s = ⟨#[]⟩ then o else if hasS o s = true then o else o ++ [s]
def nmStep (o : List ByteArray) (f : Fac) : List ByteArray := nmAdd (nmAdd o f.frm) f.to
def namesM (l : List Fac) : List ByteArray := l.foldl nmStep []
theorem nmAdd_length (o : List ByteArray) (s : ByteArray) : o.length ≤ (nmAdd o s).length ∧ (nmAdd o s).length ≤ o.length + 1 := by
  unfold nmAdd; repeat' split
  all_goals simp
theorem names_take (l : List Fac) (i : Nat) (f : Fac) (h : l[i]? = some f) : namesM (l.take (i + 1)) = nmStep (namesM (l.take i)) f := by
  unfold namesM
  rw [List.take_add_one, h]; simp
theorem names_length (l : List Fac) : (namesM l).length ≤ 2 * l.length := by
  have : ∀ (l : List Fac) (o : List ByteArray), (l.foldl nmStep o).length ≤ o.length + 2 * l.length := by
    intro l
    induction l with
    | nil => intro o; simp
    | cons f l ih =>
      intro o
      have h1 := nmAdd_length o f.frm; have h2 := nmAdd_length (nmAdd o f.frm) f.to
      have := ih (nmStep o f)
      simp only [List.foldl_cons, List.length_cons, nmStep] at *; omega
  simpa [namesM] using this l []
def AccS (n0 : Nat) (st : St) (v : AV) (l : List ByteArray) : Prop := ∃ es, Acc n0 st 1 v es ∧ All2 RStr es l
theorem rs_flat {es : List AV} {l : List ByteArray} (h : All2 RStr es l) : depL es = 0 ∧ thBL es = true ∧ ∀ e ∈ es, Plain e := by
  have := flatL (vs := es) fun v hv => by obtain ⟨x, _, rfl⟩ := h.mem v hv; exact ⟨by simp [dep], rfl⟩
  exact ⟨this.1, this.2, fun e he => by obtain ⟨x, _, rfl⟩ := h.mem e he; exact plain_str _⟩
theorem AccS.fin {n0 : Nat} {st : St} {v : AV} {l : List ByteArray} (h : AccS n0 st v l) : ∃ T, resTup st v = some T ∧ res st v = some T ∧ SS T l ∧ New 1 n0 st.n T := by
  obtain ⟨es, h, k⟩ := h
  obtain ⟨f1, f2, f3⟩ := rs_flat k
  obtain ⟨T, h1, h2, h3, h4, _⟩ := h.fin (d := 0) f3
  exact ⟨T, h1, h2, ⟨es, h3, k⟩, h4 (by omega) f1 f2⟩
theorem AccS.len {n0 : Nat} {st : St} {v : AV} {l : List ByteArray} (h : AccS n0 st v l) : aLen v = some (.int .i64 l.length) := by
  obtain ⟨es, h, k⟩ := h; rw [h.arr.len, k.length]
theorem AccS.frame {n0 : Nat} {st st' : St} {v : AV} {l : List ByteArray} (h : AccS n0 st v l) (k : ∀ i, i < st.m → st'.H i = st.H i) (hm : st.m ≤ st'.m) (hn : st.n ≤ st'.n) : AccS n0 st' v l := by
  obtain ⟨es, h, g⟩ := h; exact ⟨es, h.frame k hm hn, g⟩
theorem AccS.setN {n0 n' : Nat} {st : St} {v : AV} {l : List ByteArray} (h : AccS n0 st v l) (hn : st.n ≤ n') : AccS n0 (st.setN n') v l := h.frame (fun _ _ => rfl) (Nat.le_refl _) hn
theorem AccS.new {n0 k : Nat} {st : St} {v : AV} {l : List ByteArray} {xs : List AV} (h : AccS n0 st v l) : AccS n0 (st.new k xs) v l := h.frame (fun _ hi => new_H_ne (Nat.ne_of_lt hi)) (Nat.le_succ _) (Nat.le_succ _)
theorem AccS.lt {n0 : Nat} {st : St} {v : AV} {l : List ByteArray} (h : AccS n0 st v l) {q : Nat} (hq : isAt v q) : q < st.m := by obtain ⟨es, h, _⟩ := h; exact h.lt hq
theorem Ok.pushS {β : Type} {n0 : Nat} {st : St} {v : AV} {x : ByteArray} {l : List ByteArray} {K : AV × St → Option β} {Q : β → Prop} (h : AccS n0 st v l) (hn : n0 ≤ st.n) (hl : l.length < 4294967296)
    (k : ∀ v' st', AccS n0 st' v' (l ++ [x]) → st.m ≤ st'.m → st.n ≤ st'.n → (∀ i, i < st.m → ¬ isAt v i → st'.H i = st.H i) → (∀ q, isAt v' q → isAt v q ∨ st.m ≤ q) → Ok (K (v', st')) Q) :
    Ok (mkLit 1 1 (.str ⟨#[]⟩) [(0, .str x)] st fun y s2 => (aApp 1 v y s2).bind K) Q := by
  obtain ⟨es, h, g⟩ := h
  exact Ok.push h hn rfl rfl (by omega) rfl rfl (by rw [g.length]; omega) fun v' st' h1 h2 h3 h4 h5 => k v' st' ⟨_, h1, g.snoc rfl⟩ h2 h3 h4 h5
theorem lit0_s {β : Type} {st : St} {K : AV → St → Option β} : mkLit 0 1 (.str ⟨#[]⟩) [] st K = K (.lsl st.m st.n 1 0 0) (st.new 1 []) := lit0 (s := 1) rfl rfl (by omega)
theorem AccS.lit {n0 : Nat} {st : St} (h : n0 ≤ st.n) : AccS n0 (st.new 1 []) (.lsl st.m st.n 1 0 0) [] := ⟨[], .lit h, rfl⟩

def facAt (l : List Fac) (i : Nat) : Bool := match l[i]? with
  | some f => facOk f && (decide (i = 0) || match l[i - 1]? with | some g => decide (g.id < f.id) | none => false)
  | none => false
def flistM (l : List Fac) : Bool := decide (l.length ≤ 40) && allF (facAt l) 0 l.length && decide ((namesM l).length < 10)
def idsM (l : List Fac) (kind : Int) : List Int := (l.filter fun f => decide (f.kind = kind)).map Fac.id
theorem ids_take (l : List Fac) (kind : Int) (i : Nat) (f : Fac) (h : l[i]? = some f) : idsM (l.take (i + 1)) kind = idsM (l.take i) kind ++ if f.kind = kind then [f.id] else [] := by
  unfold idsM
  rw [List.take_add_one, h]
  simp only [Option.toList, List.filter_append, List.map_append]
  congr 1
  by_cases hk : f.kind = kind <;> simp [hk]
theorem ids_length (l : List Fac) (kind : Int) : (idsM l kind).length ≤ l.length := by
  unfold idsM; rw [List.length_map]; exact List.length_filter_le _ _

/-- whole numbers in a row, as they lie in memory -/
theorem ri_flat {es : List AV} {l : List Int} (h : All2 RI es l) : depL es = 0 ∧ thBL es = true ∧ ∀ e ∈ es, Plain e := by
  have := flatL (vs := es) fun v hv => by obtain ⟨x, _, rfl⟩ := h.mem v hv; exact ⟨by simp [dep], rfl⟩
  exact ⟨this.1, this.2, fun e he => by obtain ⟨x, _, rfl⟩ := h.mem e he; exact plain_int _ _⟩
def AccI (n0 : Nat) (st : St) (v : AV) (l : List Int) : Prop := ∃ es, Acc n0 st 1 v es ∧ All2 RI es l
theorem AccI.lt {n0 : Nat} {st : St} {v : AV} {l : List Int} (h : AccI n0 st v l) {q : Nat} (hq : isAt v q) : q < st.m := by
  obtain ⟨es, h, _⟩ := h; exact h.lt hq
theorem AccI.nil {n0 : Nat} {st : St} : AccI n0 st .nils [] := ⟨[], .nil, rfl⟩
theorem AccI.lit {n0 : Nat} {st : St} (h : n0 ≤ st.n) : AccI n0 (st.new 1 []) (.lsl st.m st.n 1 0 0) [] := ⟨[], .lit h, rfl⟩
theorem AccI.fin {n0 : Nat} {st : St} {v : AV} {l : List Int} (h : AccI n0 st v l) : ∃ T, resTup st v = some T ∧ res st v = some T ∧ IS T l ∧ New 1 n0 st.n T := by
  obtain ⟨es, h, k⟩ := h
  obtain ⟨f1, f2, f3⟩ := ri_flat k
  obtain ⟨T, h1, h2, h3, h4, _⟩ := h.fin (d := 0) f3
  exact ⟨T, h1, h2, ⟨es, h3, k⟩, h4 (by omega) f1 f2⟩
theorem AccI.len {n0 : Nat} {st : St} {v : AV} {l : List Int} (h : AccI n0 st v l) : aLen v = some (.int .i64 l.length) := by
  obtain ⟨es, h, k⟩ := h; rw [h.arr.len, k.length]
theorem AccI.get {n0 : Nat} {st : St} {v : AV} {l : List Int} (h : AccI n0 st v l) {i : Nat} {x : Int} (hx : l[i]? = some x) (kd : IntKind) : ∃ p, aIaddr 1 v (.int kd (i : Int)) = some p ∧ aLoad false 1 st p = some (.int .i64 x) := by
  obtain ⟨es, h, k⟩ := h
  obtain ⟨e, p, rfl, h1, h2⟩ := h.arr.get1 k hx (fun e he => by cases he; rfl) kd
  exact ⟨p, h1, h2⟩
theorem AccI.frame {n0 : Nat} {st st' : St} {v : AV} {l : List Int} (h : AccI n0 st v l) (k : ∀ i, i < st.m → st'.H i = st.H i) (hm : st.m ≤ st'.m) (hn : st.n ≤ st'.n) : AccI n0 st' v l := by
  obtain ⟨es, h, g⟩ := h; exact ⟨es, h.frame k hm hn, g⟩
theorem AccI.frame' {n0 : Nat} {st st' : St} {v : AV} {l : List Int} (h : AccI n0 st v l) (k : ∀ i, i < st.m → isAt v i → st'.H i = st.H i) (hm : st.m ≤ st'.m) (hn : st.n ≤ st'.n) : AccI n0 st' v l := by
  obtain ⟨es, h, g⟩ := h
  refine ⟨es, ?_, g⟩
  rcases h with ⟨rfl, rfl⟩ | ⟨j, t, h, h1, h2, h3⟩
  · exact .inl ⟨rfl, rfl⟩
  · exact .inr ⟨j, t, h.frame (k j h1 ⟨t, 1, 0, es.length, h.1⟩), by omega, h2, by omega⟩
theorem AccI.setN {n0 n' : Nat} {st : St} {v : AV} {l : List Int} (h : AccI n0 st v l) (hn : st.n ≤ n') : AccI n0 (st.setN n') v l := h.frame (fun _ _ => rfl) (Nat.le_refl _) hn
theorem Ok.pushI {β : Type} {n0 : Nat} {st : St} {v : AV} {x : Int} {l : List Int} {K : AV × St → Option β} {Q : β → Prop} (h : AccI n0 st v l) (hn : n0 ≤ st.n) (hl : l.length < 4294967296)
    (k : ∀ v' st', AccI n0 st' v' (l ++ [x]) → st.m ≤ st'.m → st.n ≤ st'.n → (∀ i, i < st.m → ¬ isAt v i → st'.H i = st.H i) → (∀ q, isAt v' q → isAt v q ∨ st.m ≤ q) → Ok (K (v', st')) Q) :
    Ok (mkLit 1 1 (.int .i64 0) [(0, .int .i64 x)] st fun y s2 => (aApp 1 v y s2).bind K) Q := by
  obtain ⟨es, h, g⟩ := h
  exact Ok.push h hn rfl rfl (by omega) rfl rfl (by rw [g.length]; omega) fun v' st' h1 h2 h3 h4 h5 => k v' st' ⟨_, h1, g.snoc rfl⟩ h2 h3 h4 h5
theorem IS.get {st : St} {v : AV} {l : List Int} (h : IS v l) {i : Nat} {x : Int} (hx : l[i]? = some x) (kd : IntKind) : ∃ p, aIaddr 1 v (.int kd (i : Int)) = some p ∧ aLoad false 1 st p = some (.int .i64 x) := by
  obtain ⟨e, rfl, h1⟩ := SlOf.idx h hx
  exact ⟨_, h1 kd, rfl⟩
theorem lit0_i {β : Type} {st : St} {K : AV → St → Option β} : mkLit 0 1 (.int .i64 0) [] st K = K (.lsl st.m st.n 1 0 0) (st.new 1 []) := lit0 (s := 1) rfl rfl (by omega)
theorem lit0_n {β : Type} {st : St} {K : AV → St → Option β} : mkLit 0 1 .nils [] st K = K (.lsl st.m st.n 1 0 0) (st.new 1 []) := lit0 (s := 1) rfl rfl (by omega)
theorem lit0_b {β : Type} {st : St} {K : AV → St → Option β} : mkLit 0 1 (.bool false) [] st K = K (.lsl st.m st.n 1 0 0) (st.new 1 []) := lit0 (s := 1) rfl rfl (by omega)

theorem FactorIds_spec {v : AV} {l : List Fac} (h : FS v l) (hl : l.length ≤ 1048576) (kind : Int) (n : Nat) : Ok (L.call i_spec_FactorIds [v, .int .i64 kind] n) fun p => n ≤ p.2 ∧ IS p.1 (idsM l kind) ∧ New 1 n p.2 p.1 := by
  rw [call_spec_FactorIds, lit0_i, SlOf.len h, bind_some']
  refine Ok.bind (P := fun r => ∃ w st, r = (.exit 0, [.undef, w], st) ∧ AccI n st w (idsM l kind) ∧ n ≤ st.n)
    (Ok.loop (σ := AV × St) (Lp := fun i s => L.loop [1, 5, 9, 10, 11] [4, 5] b_spec_FactorIds_1 [.int .i64 kind, s.1, v, .int .i64 l.length, .int .i64 i] s.2) (I := fun i s => AccI n s.2 s.1 (idsM (l.take i) kind) ∧ n ≤ s.2.n) l.length ?_ ?_ l.length 0 (.lsl (st0 n).m (st0 n).n 1 0 0, (st0 n).new 1 []) (by omega) ⟨AccI.lit (Nat.le_refl _), Nat.le_succ _⟩) ?_
  · rintro ⟨w, st⟩ ⟨hA, hn⟩
    rw [loop_spec_FactorIds_1]
    simp only [bind_some', aBin_lss, cnd_dec, Int.lt_irrefl, if_false]
    rw [List.take_length] at hA
    exact ⟨_, rfl, w, st, rfl, hA, hn⟩
  · rintro i ⟨w, st⟩ hi ⟨hA, hn⟩ ih
    dsimp only at hA hn
    obtain ⟨p, q1, _, q2⟩ := FS.get (st := st) h (List.getElem?_eq_getElem hi) .i64
    have hil := ids_length (l.take i) kind
    rw [List.length_take] at hil
    have hstep := ids_take l kind i l[i] (List.getElem?_eq_getElem hi)
    rw [loop_spec_FactorIds_1]
    simp only [bind_some', aBin_lss, aBin_leq, aBin_gtr, aBin_geq, aBin_eql, aBin_neq, aBin_add, aBin_sub, aBin_mul, aBin_seql, aBin_sneq, aBinb_eql, aBinb_neq, aUn_not, aUn_neg, aSlen_str, extr0, extr1, extr2, q1, q2]
    refine Ok.cnd (fun _ => ?_) fun hf => absurd hf (by omega)
    rw [wrap_i (x := (i : Int) + 1) (by omega)]
    simp only [facV, retV_one, retV_two, retV_three, mkNew_agg, mkNew_zc, ld_top, ld_old, ld_setN, sto_top, sto_old, sto_setN, faddr_ptr, faddr_eptr, ld_eptr, new_m', new_n', setN_m', setN_n', st0_m', st0_n', put_m', put_n', AV.cells, AV.one, AV.stor, ldCells, setElem, splice, List.all_cons, List.all_nil, List.length_cons, List.length_nil, List.drop, List.take, List.head?_cons, List.getElem?_cons_zero, List.getElem?_cons_succ, List.set_cons_zero, List.nil_append, List.cons_append, List.append_nil, List.drop_zero, List.drop_succ_cons, List.drop_nil, List.take_zero, List.take_succ_cons, List.take_nil, cond_true, cond_false, Bool.and_self, Bool.and_true, and_self, and_true, true_and, if_true, bind_some', Nat.add_zero, Nat.zero_add, Nat.reduceAdd, Nat.reduceLeDiff, ne_eq, not_false_eq_true, Nat.add_eq_zero_iff, Nat.reduceEqDiff, one_ne_zero', zero_ne_one', Nat.add_left_cancel_iff, Nat.le_refl, reduceCtorEq, bind_some', aBin_lss, aBin_leq, aBin_gtr, aBin_geq, aBin_eql, aBin_neq, aBin_add, aBin_sub, aBin_mul, aBin_seql, aBin_sneq, aBinb_eql, aBinb_neq, aUn_not, aUn_neg, aSlen_str, extr0, extr1, extr2]
    have hA' : AccI n (st.new 8 [facV l[i]]) w (idsM (l.take i) kind) := hA.frame (fun q hq => new_H_ne (Nat.ne_of_lt hq)) (Nat.le_succ _) (Nat.le_succ _)
    refine Ok.cnd (fun hk => ?_) fun hk => ?_
    · refine Ok.pushI hA' (Nat.le_trans hn (Nat.le_succ _)) (by omega) fun w2 st2 k1 k2 k3 k4 k5 => ih (w2, st2) ⟨by rw [hstep, if_pos hk]; exact k1, ?_⟩
      have : st.n + 1 ≤ st2.n := k3
      exact (show n ≤ st2.n by omega)
    · exact ih (w, _) ⟨by rw [hstep, if_neg hk, List.append_nil]; exact hA', Nat.le_trans hn (Nat.le_succ _)⟩
  · rintro _ ⟨w, st, rfl, hA, hn⟩
    obtain ⟨T, t1, _, t2, t3⟩ := hA.fin
    rw [k_spec_FactorIds_1_0, t1]
    exact ⟨_, rfl, hn, t2, t3⟩

theorem l07Has_ok {v : AV} {l : List Int} (h : IS v l) (hl : l.length ≤ 4294967296) (x : Int) (n : Nat) : Ok (L.call i_spec_l07Has [v, .int .i64 x] n) fun p => n ≤ p.2 ∧ p.1 = .bool (decide (x ∈ l)) := by
  rw [call_spec_l07Has, SlOf.len h]
  simp only [bind_some']
  have A := loop_all (fun i => L.loop [1, 7, 8, 9] [4] b_spec_l07Has_1 [.int .i64 x, v, .int .i64 l.length, .int .i64 i] (st0 n)) (fun i => !decide (vt l i = x)) l.length (.exit 0, [.undef], st0 n) (.ret, [.bool true], st0 n)
    (by
      rw [loop_spec_l07Has_1]
      simp only [bind_some', aBin_lss, cnd_dec, Int.lt_irrefl, if_false])
    (fun i hi => by
      obtain ⟨p, q1, q2⟩ := IS.get (st := st0 n) h (List.getElem?_eq_getElem hi) .i64
      have hvt : vt l i = l[i] := by simp [vt, List.getElem?_eq_getElem hi]
      rw [loop_spec_l07Has_1]
      simp only [bind_some', aBin_lss, cnd_dec, q1, q2, aBin_eql, aBin_add, hvt]
      rw [if_pos (by omega), wrap64 (by omega) (by omega)]
      by_cases e : l[i] = x <;> simp [e])
    l.length 0 (by omega)
  rw [show ((0 : Nat) : Int) = 0 from rfl] at A
  rw [A]
  have hm : allF (fun i => !decide (vt l i = x)) 0 l.length = !decide (x ∈ l) := by
    rw [Bool.eq_iff_iff, allF_iff]
    simp only [Bool.not_eq_true', decide_eq_false_iff_not]
    constructor
    · intro h hx
      obtain ⟨i, hi, e⟩ := List.mem_iff_getElem.1 hx
      exact h i (Nat.zero_le _) (by omega) (by simp [vt, List.getElem?_eq_getElem hi, e])
    · intro hx i _ hi e
      have hi' : i < l.length := by omega
      exact hx (by rw [← e]; simp [vt, List.getElem?_eq_getElem hi'])
  rw [hm]
  by_cases hx : x ∈ l
  · simp only [hx, decide_true, Bool.not_true, Bool.false_eq_true, if_false, bind_some', k_spec_l07Has_1_ret, resTup_bool]
    exact ⟨_, rfl, Nat.le_refl _, rfl⟩
  · simp only [hx, decide_false, Bool.not_false, if_true, bind_some', k_spec_l07Has_1_0, resTup_bool]
    exact ⟨_, rfl, Nat.le_refl _, rfl⟩

def othersM (l : List Fac) (ids : List Int) : List Int := (idsM l 4).filter fun x => !decide (x ∈ ids)

theorem OtherLoops_spec0 {v u : AV} {l : List Fac} {ids : List Int} (h : FS v l) (hl : l.length ≤ 1048576) (hu : IS u ids) (hi : ids.length ≤ 1048576) (n : Nat) :
    Ok (L.call i_spec_OtherLoops [v, u] n) fun p => n ≤ p.2 ∧ IS p.1 (othersM l ids) ∧ New 1 n p.2 p.1 := by
  rw [call_spec_OtherLoops, lit0_i]
  refine Ok.call (FactorIds_spec h hl 4 _) (plain2 h.plain (plain_int _ _)) fun r n1 hp => ?_
  obtain ⟨hn1, h1, _⟩ : n + 1 ≤ n1 ∧ IS r (idsM l 4) ∧ _ := hp
  simp only [SlOf.len h1, bind_some']
  have hil := ids_length l 4
  refine Ok.bind (P := fun r => ∃ w st, r = (.exit 0, [.undef, w], st) ∧ AccI n st w (othersM l ids) ∧ n ≤ st.n)
    (Ok.loop (σ := AV × St) (Lp := fun i s => L.loop [1, 5, 10, 11, 12] [4, 5] b_spec_OtherLoops_1 [u, s.1, r, .int .i64 (idsM l 4).length, .int .i64 i] s.2) (I := fun i s => AccI n s.2 s.1 (((idsM l 4).take i).filter fun x => !decide (x ∈ ids)) ∧ n ≤ s.2.n) (idsM l 4).length ?_ ?_ (idsM l 4).length 0 (.lsl (st0 n).m (st0 n).n 1 0 0, ((st0 n).new 1 []).setN n1) (by omega) ⟨(AccI.lit (Nat.le_refl _)).setN hn1, show n ≤ n1 by omega⟩) ?_
  · rintro ⟨w, st⟩ ⟨hA, hn⟩
    rw [loop_spec_OtherLoops_1]
    simp only [bind_some', aBin_lss, cnd_dec, Int.lt_irrefl, if_false]
    rw [List.take_length] at hA
    exact ⟨_, rfl, w, st, rfl, hA, hn⟩
  · rintro i ⟨w, st⟩ hi' ⟨hA, hn⟩ ih
    dsimp only at hA hn
    obtain ⟨p, q1, q2⟩ := IS.get (st := st) h1 (List.getElem?_eq_getElem hi') .i64
    rw [loop_spec_OtherLoops_1]
    simp only [bind_some', aBin_lss, aBin_leq, aBin_gtr, aBin_geq, aBin_eql, aBin_neq, aBin_add, aBin_sub, aBin_mul, aBin_seql, aBin_sneq, aBinb_eql, aBinb_neq, aUn_not, aUn_neg, aSlen_str, extr0, extr1, extr2, q1, q2]
    refine Ok.cnd (fun _ => ?_) fun hf => absurd hf (by omega)
    refine Ok.call (l07Has_ok hu (by omega) (idsM l 4)[i] _) (plain2 hu.plain (plain_int _ _)) fun r2 n2 hp => ?_
    obtain ⟨hn2, rfl⟩ : st.n ≤ n2 ∧ r2 = .bool (decide ((idsM l 4)[i] ∈ ids)) := hp
    simp only [aUn_not, bind_some']
    rw [wrap_i (x := (i : Int) + 1) (by omega)]
    have ht : (((idsM l 4).take (i + 1)).filter fun x => !decide (x ∈ ids)) = (((idsM l 4).take i).filter fun x => !decide (x ∈ ids)) ++ if (idsM l 4)[i] ∈ ids then [] else [(idsM l 4)[i]] := by
      rw [List.take_add_one, List.getElem?_eq_getElem hi']
      simp only [Option.toList, List.filter_append]
      congr 1
      by_cases hx : (idsM l 4)[i] ∈ ids <;> simp [hx]
    have hfl : (((idsM l 4).take i).filter fun x => !decide (x ∈ ids)).length ≤ i := Nat.le_trans (List.length_filter_le _ _) (by rw [List.length_take]; omega)
    refine Ok.cndn (fun hx => ?_) fun hx => ?_
    · refine Ok.pushI (hA.setN hn2) (Nat.le_trans hn hn2) (by omega) fun w2 st2 k1 k2 k3 k4 k5 => ih (w2, st2) ⟨by rw [ht, if_neg hx]; exact k1, Nat.le_trans hn (Nat.le_trans hn2 k3)⟩
    · exact ih (w, _) ⟨by rw [ht, if_pos hx, List.append_nil]; exact hA.setN hn2, Nat.le_trans hn hn2⟩
  · rintro _ ⟨w, st, rfl, hA, hn⟩
    obtain ⟨T, t1, _, t2, t3⟩ := hA.fin
    rw [k_spec_OtherLoops_1_0, t1]
    exact ⟨_, rfl, hn, t2, t3⟩

theorem FactorIds_impl {v : AV} {l : List Fac} (h : FS v l) (hl : l.length ≤ 1048576) (kind : Int) (n : Nat) : Ok (L.call i_impl_FactorIds [v, .int .i64 kind] n) fun p => n ≤ p.2 ∧ IS p.1 (idsM l kind) ∧ New 1 n p.2 p.1 := by
  rw [call_impl_FactorIds, lit0_i, SlOf.len h, bind_some']
  refine Ok.bind (P := fun r => ∃ w st, r = (.exit 0, [.undef, w], st) ∧ AccI n st w (idsM l kind) ∧ n ≤ st.n)
    (Ok.loop (σ := AV × St) (Lp := fun i s => L.loop [1, 5, 9, 10, 11] [4, 5] b_impl_FactorIds_1 [.int .i64 kind, s.1, v, .int .i64 l.length, .int .i64 i] s.2) (I := fun i s => AccI n s.2 s.1 (idsM (l.take i) kind) ∧ n ≤ s.2.n) l.length ?_ ?_ l.length 0 (.lsl (st0 n).m (st0 n).n 1 0 0, (st0 n).new 1 []) (by omega) ⟨AccI.lit (Nat.le_refl _), Nat.le_succ _⟩) ?_
  · rintro ⟨w, st⟩ ⟨hA, hn⟩
    rw [loop_impl_FactorIds_1]
    simp only [bind_some', aBin_lss, cnd_dec, Int.lt_irrefl, if_false]
    rw [List.take_length] at hA
    exact ⟨_, rfl, w, st, rfl, hA, hn⟩
  · rintro i ⟨w, st⟩ hi ⟨hA, hn⟩ ih
    dsimp only at hA hn
    obtain ⟨p, q1, _, q2⟩ := FS.get (st := st) h (List.getElem?_eq_getElem hi) .i64
    have hil := ids_length (l.take i) kind
    rw [List.length_take] at hil
    have hstep := ids_take l kind i l[i] (List.getElem?_eq_getElem hi)
    rw [loop_impl_FactorIds_1]
    simp only [bind_some', aBin_lss, aBin_leq, aBin_gtr, aBin_geq, aBin_eql, aBin_neq, aBin_add, aBin_sub, aBin_mul, aBin_seql, aBin_sneq, aBinb_eql, aBinb_neq, aUn_not, aUn_neg, aSlen_str, extr0, extr1, extr2, q1, q2]
    refine Ok.cnd (fun _ => ?_) fun hf => absurd hf (by omega)
    rw [wrap_i (x := (i : Int) + 1) (by omega)]
    simp only [facV, retV_one, retV_two, retV_three, mkNew_agg, mkNew_zc, ld_top, ld_old, ld_setN, sto_top, sto_old, sto_setN, faddr_ptr, faddr_eptr, ld_eptr, new_m', new_n', setN_m', setN_n', st0_m', st0_n', put_m', put_n', AV.cells, AV.one, AV.stor, ldCells, setElem, splice, List.all_cons, List.all_nil, List.length_cons, List.length_nil, List.drop, List.take, List.head?_cons, List.getElem?_cons_zero, List.getElem?_cons_succ, List.set_cons_zero, List.nil_append, List.cons_append, List.append_nil, List.drop_zero, List.drop_succ_cons, List.drop_nil, List.take_zero, List.take_succ_cons, List.take_nil, cond_true, cond_false, Bool.and_self, Bool.and_true, and_self, and_true, true_and, if_true, bind_some', Nat.add_zero, Nat.zero_add, Nat.reduceAdd, Nat.reduceLeDiff, ne_eq, not_false_eq_true, Nat.add_eq_zero_iff, Nat.reduceEqDiff, one_ne_zero', zero_ne_one', Nat.add_left_cancel_iff, Nat.le_refl, reduceCtorEq, bind_some', aBin_lss, aBin_leq, aBin_gtr, aBin_geq, aBin_eql, aBin_neq, aBin_add, aBin_sub, aBin_mul, aBin_seql, aBin_sneq, aBinb_eql, aBinb_neq, aUn_not, aUn_neg, aSlen_str, extr0, extr1, extr2]
    have hA' : AccI n (st.new 8 [facV l[i]]) w (idsM (l.take i) kind) := hA.frame (fun q hq => new_H_ne (Nat.ne_of_lt hq)) (Nat.le_succ _) (Nat.le_succ _)
    refine Ok.cnd (fun hk => ?_) fun hk => ?_
    · refine Ok.pushI hA' (Nat.le_trans hn (Nat.le_succ _)) (by omega) fun w2 st2 k1 k2 k3 k4 k5 => ih (w2, st2) ⟨by rw [hstep, if_pos hk]; exact k1, ?_⟩
      have : st.n + 1 ≤ st2.n := k3
      exact (show n ≤ st2.n by omega)
    · exact ih (w, _) ⟨by rw [hstep, if_neg hk, List.append_nil]; exact hA', Nat.le_trans hn (Nat.le_succ _)⟩
  · rintro _ ⟨w, st, rfl, hA, hn⟩
    obtain ⟨T, t1, _, t2, t3⟩ := hA.fin
    rw [k_impl_FactorIds_1_0, t1]
    exact ⟨_, rfl, hn, t2, t3⟩

theorem hasInt_ok {v : AV} {l : List Int} (h : IS v l) (hl : l.length ≤ 4294967296) (x : Int) (n : Nat) : Ok (L.call i_impl_hasInt [v, .int .i64 x] n) fun p => n ≤ p.2 ∧ p.1 = .bool (decide (x ∈ l)) := by
  rw [call_impl_hasInt, SlOf.len h]
  simp only [bind_some']
  have A := loop_all (fun i => L.loop [1, 7, 8, 9] [4] b_impl_hasInt_1 [.int .i64 x, v, .int .i64 l.length, .int .i64 i] (st0 n)) (fun i => !decide (vt l i = x)) l.length (.exit 0, [.undef], st0 n) (.ret, [.bool true], st0 n)
    (by
      rw [loop_impl_hasInt_1]
      simp only [bind_some', aBin_lss, cnd_dec, Int.lt_irrefl, if_false])
    (fun i hi => by
      obtain ⟨p, q1, q2⟩ := IS.get (st := st0 n) h (List.getElem?_eq_getElem hi) .i64
      have hvt : vt l i = l[i] := by simp [vt, List.getElem?_eq_getElem hi]
      rw [loop_impl_hasInt_1]
      simp only [bind_some', aBin_lss, cnd_dec, q1, q2, aBin_eql, aBin_add, hvt]
      rw [if_pos (by omega), wrap64 (by omega) (by omega)]
      by_cases e : l[i] = x <;> simp [e])
    l.length 0 (by omega)
  rw [show ((0 : Nat) : Int) = 0 from rfl] at A
  rw [A]
  have hm : allF (fun i => !decide (vt l i = x)) 0 l.length = !decide (x ∈ l) := by
    rw [Bool.eq_iff_iff, allF_iff]
    simp only [Bool.not_eq_true', decide_eq_false_iff_not]
    constructor
    · intro h hx
      obtain ⟨i, hi, e⟩ := List.mem_iff_getElem.1 hx
      exact h i (Nat.zero_le _) (by omega) (by simp [vt, List.getElem?_eq_getElem hi, e])
    · intro hx i _ hi e
      have hi' : i < l.length := by omega
      exact hx (by rw [← e]; simp [vt, List.getElem?_eq_getElem hi'])
  rw [hm]
  by_cases hx : x ∈ l
  · simp only [hx, decide_true, Bool.not_true, Bool.false_eq_true, if_false, bind_some', k_impl_hasInt_1_ret, resTup_bool]
    exact ⟨_, rfl, Nat.le_refl _, rfl⟩
  · simp only [hx, decide_false, Bool.not_false, if_true, bind_some', k_impl_hasInt_1_0, resTup_bool]
    exact ⟨_, rfl, Nat.le_refl _, rfl⟩

theorem OtherLoops_impl0 {v u : AV} {l : List Fac} {ids : List Int} (h : FS v l) (hl : l.length ≤ 1048576) (hu : IS u ids) (hi : ids.length ≤ 1048576) (n : Nat) :
    Ok (L.call i_impl_OtherLoops [v, u] n) fun p => n ≤ p.2 ∧ IS p.1 (othersM l ids) ∧ New 1 n p.2 p.1 := by
  rw [call_impl_OtherLoops, lit0_i]
  refine Ok.call (FactorIds_impl h hl 4 _) (plain2 h.plain (plain_int _ _)) fun r n1 hp => ?_
  obtain ⟨hn1, h1, _⟩ : n + 1 ≤ n1 ∧ IS r (idsM l 4) ∧ _ := hp
  simp only [SlOf.len h1, bind_some']
  have hil := ids_length l 4
  refine Ok.bind (P := fun r => ∃ w st, r = (.exit 0, [.undef, w], st) ∧ AccI n st w (othersM l ids) ∧ n ≤ st.n)
    (Ok.loop (σ := AV × St) (Lp := fun i s => L.loop [1, 5, 10, 11, 12] [4, 5] b_impl_OtherLoops_1 [u, s.1, r, .int .i64 (idsM l 4).length, .int .i64 i] s.2) (I := fun i s => AccI n s.2 s.1 (((idsM l 4).take i).filter fun x => !decide (x ∈ ids)) ∧ n ≤ s.2.n) (idsM l 4).length ?_ ?_ (idsM l 4).length 0 (.lsl (st0 n).m (st0 n).n 1 0 0, ((st0 n).new 1 []).setN n1) (by omega) ⟨(AccI.lit (Nat.le_refl _)).setN hn1, show n ≤ n1 by omega⟩) ?_
  · rintro ⟨w, st⟩ ⟨hA, hn⟩
    rw [loop_impl_OtherLoops_1]
    simp only [bind_some', aBin_lss, cnd_dec, Int.lt_irrefl, if_false]
    rw [List.take_length] at hA
    exact ⟨_, rfl, w, st, rfl, hA, hn⟩
  · rintro i ⟨w, st⟩ hi' ⟨hA, hn⟩ ih
    dsimp only at hA hn
    obtain ⟨p, q1, q2⟩ := IS.get (st := st) h1 (List.getElem?_eq_getElem hi') .i64
    rw [loop_impl_OtherLoops_1]
    simp only [bind_some', aBin_lss, aBin_leq, aBin_gtr, aBin_geq, aBin_eql, aBin_neq, aBin_add, aBin_sub, aBin_mul, aBin_seql, aBin_sneq, aBinb_eql, aBinb_neq, aUn_not, aUn_neg, aSlen_str, extr0, extr1, extr2, q1, q2]
    refine Ok.cnd (fun _ => ?_) fun hf => absurd hf (by omega)
    refine Ok.call (hasInt_ok hu (by omega) (idsM l 4)[i] _) (plain2 hu.plain (plain_int _ _)) fun r2 n2 hp => ?_
    obtain ⟨hn2, rfl⟩ : st.n ≤ n2 ∧ r2 = .bool (decide ((idsM l 4)[i] ∈ ids)) := hp
    simp only [aUn_not, bind_some']
    rw [wrap_i (x := (i : Int) + 1) (by omega)]
    have ht : (((idsM l 4).take (i + 1)).filter fun x => !decide (x ∈ ids)) = (((idsM l 4).take i).filter fun x => !decide (x ∈ ids)) ++ if (idsM l 4)[i] ∈ ids then [] else [(idsM l 4)[i]] := by
      rw [List.take_add_one, List.getElem?_eq_getElem hi']
      simp only [Option.toList, List.filter_append]
      congr 1
      by_cases hx : (idsM l 4)[i] ∈ ids <;> simp [hx]
    have hfl : (((idsM l 4).take i).filter fun x => !decide (x ∈ ids)).length ≤ i := Nat.le_trans (List.length_filter_le _ _) (by rw [List.length_take]; omega)
    refine Ok.cndn (fun hx => ?_) fun hx => ?_
    · refine Ok.pushI (hA.setN hn2) (Nat.le_trans hn hn2) (by omega) fun w2 st2 k1 k2 k3 k4 k5 => ih (w2, st2) ⟨by rw [ht, if_neg hx]; exact k1, Nat.le_trans hn (Nat.le_trans hn2 k3)⟩
    · exact ih (w, _) ⟨by rw [ht, if_pos hx, List.append_nil]; exact hA.setN hn2, Nat.le_trans hn hn2⟩
  · rintro _ ⟨w, st, rfl, hA, hn⟩
    obtain ⟨T, t1, _, t2, t3⟩ := hA.fin
    rw [k_impl_OtherLoops_1_0, t1]
    exact ⟨_, rfl, hn, t2, t3⟩

def OtherLoops_M (l : List Fac) (ids : List Int) : List Int := othersM l ids
theorem OtherLoops_sm {l : List Fac} {ids : List Int} (s0 : sm_FactorS l) (_ : sm_IntS ids) : sm_IntS (OtherLoops_M l ids) := by
  unfold OtherLoops_M othersM sm_IntS
  have h1 := List.length_filter_le (fun x => !decide (x ∈ ids)) (idsM l 4)
  have := ids_length l 4; have := s0.1
  omega
theorem OtherLoops_spec_ok {v0 v1 : AV} {l : List Fac} {ids : List Int} (h0 : FS v0 l) (s0 : sm_FactorS l) (h1 : IS v1 ids) (s1 : sm_IntS ids) (n : Nat) :
    Ok (L.call i_spec_OtherLoops [v0, v1] n) fun p => n ≤ p.2 ∧ IS p.1 (OtherLoops_M l ids) := (OtherLoops_spec0 h0 s0.1 h1 s1 n).mono fun _ p => ⟨p.1, p.2.1⟩
theorem OtherLoops_impl_ok {v0 v1 : AV} {l : List Fac} {ids : List Int} (h0 : FS v0 l) (s0 : sm_FactorS l) (h1 : IS v1 ids) (s1 : sm_IntS ids) (n : Nat) :
    Ok (L.call i_impl_OtherLoops [v0, v1] n) fun p => n ≤ p.2 ∧ IS p.1 (OtherLoops_M l ids) ∧ New 6 n p.2 p.1 := (OtherLoops_impl0 h0 s0.1 h1 s1 n).mono fun _ p => ⟨p.1, p.2.1, p.2.2.wide (by omega) (Nat.le_refl _) (Nat.le_refl _)⟩

end Go.Proofs.YtpjddmfcikelcaaFw
