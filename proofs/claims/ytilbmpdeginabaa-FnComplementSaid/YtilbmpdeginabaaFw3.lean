/- What an abstract value says of a value in memory, and what keeps it. Conditions: none beside each theorem's own. -/
import Derived.Test.YtilbmpdeginabaaFw2
import Derived.Laws.IdiomCopy
import Derived.Laws.MakeOwn
import Derived.Deep.AppendSrc
namespace Go.Proofs.YtilbmpdeginabaaFw
open Go Go.RowKit
set_option linter.unusedSimpArgs false
set_option linter.unusedVariables false

structure TI where
  blk : Nat
  cap : Nat
  s : Nat

/-- N0: below it lies what came in; T: where an array lies, by its tag; Vd: the tags of what is never written any more; Rz: the local arrays' tags -/
structure Cx where
  N0 : Nat
  T : Nat → TI
  Vd : Nat → Prop
  Rz : Nat → Prop

def Cx.Im (c : Cx) (b : Nat) : Prop := b < c.N0 ∨ ∃ t, c.Vd t ∧ (c.T t).cap ≠ 0 ∧ (c.T t).blk = b

/-- a slice's header -/
def SH (ti : TI) (off len : Nat) (v : Value) : Prop :=
  ∃ a cap, v = .slice a len cap ∧ off + cap = ti.cap ∧ len ≤ cap ∧ (cap = 0 ∨ a = some ⟨ti.blk, off * ti.s, none⟩)

def Stored (w : World) (v : Value) (b o : Nat) : Prop := ∀ k x, v.cells[k]? = some x → w.cell? ⟨b, o + k, none⟩ = some x

section
variable (c : Cx) (w : World)
mutual
def VRel : AV → Value → Prop
  | .undef, _ => True
  | .bool b, v => v = .bool b
  | .int k n, v => v = .int k n
  | .str s, v => v = .string s
  | .nilp, v => v = .pointer none
  | .nils, v => ∃ a, v = .slice a 0 0
  | .ptr _ t i f, v => c.Rz t ∧ (c.T t).cap ≠ 0 ∧ v = .pointer (some ⟨(c.T t).blk, i * (c.T t).s + f, none⟩)
  | .eptr cs, v => ∃ b o, v = .pointer (some ⟨b, o, none⟩) ∧ c.Im b ∧ CRel cs b o
  | .lsl _ t s off len, v => c.Rz t ∧ (c.T t).s = s ∧ SH (c.T t) off len v
  | .sl t off s es, v => treeL es = true ∧ (
      (t = 0 ∧ ∃ a cap, v = .slice a es.length cap ∧ es.length ≤ cap ∧ (es = [] ∨ ∃ b o, a = some ⟨b, o, none⟩ ∧ b < c.N0 ∧ ERel s es b o)) ∨
      (t ≠ 0 ∧ c.Vd t ∧ (c.T t).s = s ∧ SH (c.T t) off es.length v ∧ ERel s es (c.T t).blk (off * s)))
  | .agg cs, v => ∃ vs : Array Value, v = .agg vs ∧ VRels cs vs.toList
  | .tup cs, v => ∃ vs : Array Value, v = .tuple vs ∧ VRels cs vs.toList
def VRels : List AV → List Value → Prop
  | [], vs => vs = []
  | a :: as, vs => ∃ x xs, vs = x :: xs ∧ VRel a x ∧ VRels as xs
def CRel : List AV → Nat → Nat → Prop
  | [], _, _ => True
  | a :: as, b, o => (a.one = true ∧ ∃ x, w.cell? ⟨b, o, none⟩ = some x ∧ VRel a x) ∧ CRel as b (o + 1)
def ERel (s : Nat) : List AV → Nat → Nat → Prop
  | [], _, _ => True
  | e :: es, b, o => (e.stor = true ∧ ∃ v, VRel e v ∧ v.cells.size = s ∧ Stored w v b o) ∧ ERel s es b (o + s)
end
end

theorem VRels_length {c : Cx} {w : World} : ∀ {as : List AV} {vs : List Value}, VRels c w as vs → as.length = vs.length
  | [], vs, h => by simp only [VRels] at h; subst h; rfl
  | a :: as, vs, h => by simp only [VRels] at h; obtain ⟨x, xs, rfl, _, h⟩ := h; simp [VRels_length h]

theorem VRels_get {c : Cx} {w : World} : ∀ {as : List AV} {vs : List Value}, VRels c w as vs → ∀ (i : Nat) (a : AV), as[i]? = some a → ∃ v, vs[i]? = some v ∧ VRel c w a v
  | [], vs, h, i, a, hi => by simp at hi
  | b :: as, vs, h, i, a, hi => by
    simp only [VRels] at h; obtain ⟨x, xs, rfl, h0, h⟩ := h
    cases i with
    | zero => simp at hi; subst hi; exact ⟨x, rfl, h0⟩
    | succ i => simp at hi; obtain ⟨v, h1, h2⟩ := VRels_get h i a hi; exact ⟨v, by simpa using h1, h2⟩

theorem VRels_of {c : Cx} {w : World} : ∀ {as : List AV} {vs : List Value}, as.length = vs.length → (∀ (i : Nat) (a : AV) (v : Value), as[i]? = some a → vs[i]? = some v → VRel c w a v) → VRels c w as vs
  | [], [], _, _ => by simp [VRels]
  | [], _ :: _, h, _ => by simp at h
  | _ :: _, [], h, _ => by simp at h
  | a :: as, v :: vs, h, k => by
    simp only [VRels]
    exact ⟨v, vs, rfl, k 0 a v rfl rfl, VRels_of (by simpa using h) (fun i a' v' h1 h2 => k (i + 1) a' v' (by simpa using h1) (by simpa using h2))⟩

/-- a known value of one cell is one in memory -/
theorem one_cells {c : Cx} {w : World} {a : AV} {v : Value} (h : VRel c w a v) (h1 : a.one = true) : v.cells = #[v] ∧ v.oneCell' = true := by
  cases a <;> simp [AV.one] at h1 <;> simp only [VRel] at h
  case bool => subst h; exact ⟨rfl, rfl⟩
  case int => subst h; exact ⟨rfl, rfl⟩
  case str => subst h; exact ⟨rfl, rfl⟩
  case nilp => subst h; exact ⟨rfl, rfl⟩
  case nils => obtain ⟨a, rfl⟩ := h; exact ⟨rfl, rfl⟩
  case ptr => obtain ⟨_, _, rfl⟩ := h; exact ⟨rfl, rfl⟩
  case eptr => obtain ⟨b, o, rfl, _⟩ := h; exact ⟨rfl, rfl⟩
  case lsl => obtain ⟨_, _, a, cap, rfl, _⟩ := h; exact ⟨rfl, rfl⟩
  case sl =>
    rcases h.2 with ⟨_, a, cap, rfl, _⟩ | ⟨_, _, _, ⟨a, cap, rfl, _⟩, _⟩ <;> exact ⟨rfl, rfl⟩

theorem stor_size {c : Cx} {w : World} {a : AV} {v : Value} (h : VRel c w a v) (h1 : a.stor = true) : v.cells.size = a.cells.length := by
  cases a
  case agg cs => simp only [VRel] at h; obtain ⟨vs, rfl, h⟩ := h; simp [Value.cells, AV.cells, VRels_length h]
  all_goals
    first
    | (simp [AV.stor, AV.one] at h1; done)
    | (have := (one_cells h (by simpa [AV.stor] using h1)).1; simp [this, AV.cells])

/-- the cells of a stored element, one by one -/
theorem CRel_of_stored {c : Cx} {w : World} {b : Nat} : ∀ (as : List AV) (vs : List Value) (o : Nat), VRels c w as vs → as.all AV.one = true → (∀ (k : Nat) (x : Value), vs[k]? = some x → w.cell? ⟨b, o + k, none⟩ = some x) → CRel c w as b o
  | [], _, _, _, _, _ => by simp [CRel]
  | a :: as, vs, o, h, h1, hs => by
    simp only [VRels] at h; obtain ⟨x, xs, rfl, h0, h⟩ := h
    simp only [List.all_cons, Bool.and_eq_true] at h1
    simp only [CRel]
    refine ⟨⟨h1.1, x, by simpa using hs 0 x rfl, h0⟩, CRel_of_stored as xs (o + 1) h h1.2 (fun k y hk => ?_)⟩
    have := hs (k + 1) y (by simpa using hk)
    rwa [show o + 1 + k = o + (k + 1) by omega]

theorem CRel_elem {c : Cx} {w : World} {e : AV} {v : Value} {b o : Nat} (h : VRel c w e v) (h1 : e.stor = true) (hs : Stored w v b o) : CRel c w e.cells b o := by
  cases e
  case agg cs =>
    simp only [VRel] at h; obtain ⟨vs, rfl, h⟩ := h
    exact CRel_of_stored cs vs.toList o h h1 (fun k x hk => hs k x (by simpa [Value.cells] using hk))
  all_goals
    first
    | (simp [AV.stor, AV.one] at h1; done)
    | (have hc := (one_cells h (by simpa [AV.stor] using h1)).1
       simp only [AV.cells, CRel, and_true]
       exact ⟨by simpa [AV.stor] using h1, v, by simpa using hs 0 v (by simp [hc]), h⟩)

theorem CRel_get {c : Cx} {w : World} {b : Nat} : ∀ {as : List AV} {o : Nat}, CRel c w as b o → ∀ (i : Nat) (a : AV), as[i]? = some a → a.one = true ∧ ∃ x, w.cell? ⟨b, o + i, none⟩ = some x ∧ VRel c w a x
  | [], _, _, i, a, hi => by simp at hi
  | e :: as, o, h, i, a, hi => by
    simp only [CRel] at h
    cases i with
    | zero => simp at hi; subst hi; exact h.1
    | succ i =>
      simp at hi
      have := CRel_get h.2 i a hi
      rwa [show o + 1 + i = o + (i + 1) by omega] at this

theorem CRel_drop {c : Cx} {w : World} {b : Nat} : ∀ {as : List AV} {o : Nat} (n : Nat), CRel c w as b o → CRel c w (as.drop n) b (o + n)
  | as, o, 0, h => by simpa using h
  | [], o, n + 1, h => by simp [CRel]
  | a :: as, o, n + 1, h => by
    simp only [CRel] at h
    have := CRel_drop n h.2
    simp only [List.drop_succ_cons]
    rwa [show o + 1 + n = o + (n + 1) by omega] at this

theorem CRel_take {c : Cx} {w : World} {b : Nat} : ∀ {as : List AV} {o : Nat} (n : Nat), CRel c w as b o → CRel c w (as.take n) b o
  | _, _, 0, h => by simp [CRel]
  | [], o, n + 1, h => by simp [CRel]
  | a :: as, o, n + 1, h => by
    simp only [CRel, List.take_succ_cons] at h ⊢
    exact ⟨h.1, CRel_take n h.2⟩

theorem ERel_get {c : Cx} {w : World} {b s : Nat} : ∀ {es : List AV} {o : Nat}, ERel c w s es b o → ∀ (i : Nat) (e : AV), es[i]? = some e → e.stor = true ∧ ∃ v, VRel c w e v ∧ v.cells.size = s ∧ Stored w v b (o + i * s)
  | [], _, _, i, a, hi => by simp at hi
  | e :: es, o, h, i, a, hi => by
    simp only [ERel] at h
    cases i with
    | zero => simp at hi; subst hi; simpa using h.1
    | succ i =>
      simp at hi
      have := ERel_get h.2 i a hi
      rwa [show o + s + i * s = o + (i + 1) * s by rw [Nat.add_mul]; omega] at this

theorem ERel_of {c : Cx} {w : World} {b s : Nat} : ∀ (es : List AV) (o : Nat), (∀ (i : Nat) (e : AV), es[i]? = some e → e.stor = true ∧ ∃ v, VRel c w e v ∧ v.cells.size = s ∧ Stored w v b (o + i * s)) → ERel c w s es b o
  | [], _, _ => by simp [ERel]
  | e :: es, o, h => by
    simp only [ERel]
    refine ⟨by simpa using h 0 e rfl, ERel_of es (o + s) (fun i a hi => ?_)⟩
    have := h (i + 1) a (by simpa using hi)
    rwa [show o + s + i * s = o + (i + 1) * s by rw [Nat.add_mul]; omega]

/-! ### what keeps it -/

structure Ex (c : Cx) (w : World) (c' : Cx) (w' : World) : Prop where
  n0 : c'.N0 = c.N0
  rz : ∀ t, c.Rz t → c'.Rz t ∧ c'.T t = c.T t
  vd : ∀ t, c.Vd t → c'.Vd t ∧ c'.T t = c.T t
  im : ∀ b, c.Im b → ∀ o, w'.cell? ⟨b, o, none⟩ = w.cell? ⟨b, o, none⟩

theorem Ex.refl (c : Cx) (w : World) : Ex c w c w := ⟨rfl, fun _ h => ⟨h, rfl⟩, fun _ h => ⟨h, rfl⟩, fun _ _ _ => rfl⟩

theorem Ex.imm {c c' : Cx} {w w' : World} (h : Ex c w c' w') {b : Nat} (hb : c.Im b) : c'.Im b := by
  rcases hb with hb | ⟨t, h1, h2, h3⟩
  · exact .inl (by rw [h.n0]; exact hb)
  · obtain ⟨h4, h5⟩ := h.vd t h1
    exact .inr ⟨t, h4, by rw [h5]; exact h2, by rw [h5]; exact h3⟩

theorem Ex.trans {c c' c'' : Cx} {w w' w'' : World} (h : Ex c w c' w') (k : Ex c' w' c'' w'') : Ex c w c'' w'' :=
  ⟨k.n0.trans h.n0, fun t ht => ⟨(k.rz t (h.rz t ht).1).1, (k.rz t (h.rz t ht).1).2.trans (h.rz t ht).2⟩,
    fun t ht => ⟨(k.vd t (h.vd t ht).1).1, (k.vd t (h.vd t ht).1).2.trans (h.vd t ht).2⟩, fun b hb o => (k.im b (h.imm hb) o).trans (h.im b hb o)⟩

mutual
theorem VRel_ex {c c' : Cx} {w w' : World} (X : Ex c w c' w') : ∀ {a : AV} {v : Value}, VRel c w a v → VRel c' w' a v
  | .undef, _, _ => by simp [VRel]
  | .bool b, _, h => by simpa only [VRel] using h
  | .int k n, _, h => by simpa only [VRel] using h
  | .str s, _, h => by simpa only [VRel] using h
  | .nilp, _, h => by simpa only [VRel] using h
  | .nils, _, h => by simpa only [VRel] using h
  | .ptr j t i f, _, h => by
    simp only [VRel] at h ⊢
    obtain ⟨h1, h2, h3⟩ := h
    obtain ⟨k1, k2⟩ := X.rz t h1
    exact ⟨k1, by rw [k2]; exact h2, by rw [k2]; exact h3⟩
  | .eptr cs, _, h => by
    simp only [VRel] at h ⊢
    obtain ⟨b, o, h1, h2, h3⟩ := h
    exact ⟨b, o, h1, X.imm h2, CRel_ex X h2 h3⟩
  | .lsl j t s off len, _, h => by
    simp only [VRel] at h ⊢
    obtain ⟨h1, h2, h3⟩ := h
    obtain ⟨k1, k2⟩ := X.rz t h1
    exact ⟨k1, by rw [k2]; exact h2, by rw [k2]; exact h3⟩
  | .sl t off s es, _, h => by
    simp only [VRel] at h ⊢
    refine ⟨h.1, ?_⟩
    rcases h.2 with ⟨h0, a, cap, h1, h2, h3⟩ | ⟨h0, h1, h2, h3, h4⟩
    · refine .inl ⟨h0, a, cap, h1, h2, ?_⟩
      rcases h3 with h3 | ⟨b, o, h3, h5, h4⟩
      · exact .inl h3
      · exact .inr ⟨b, o, h3, by rw [X.n0]; exact h5, ERel_ex X (.inl h5) h4⟩
    · obtain ⟨k1, k2⟩ := X.vd t h1
      refine .inr ⟨h0, k1, by rw [k2]; exact h2, by rw [k2]; exact h3, ?_⟩
      rw [k2]
      by_cases he : es = []
      · subst he; simp [ERel]
      · obtain ⟨a, cap, hv, h5, h6, h7⟩ := h3
        have : 0 < es.length := List.length_pos_iff.2 he
        exact ERel_ex X (.inr ⟨t, h1, by omega, rfl⟩) h4
  | .agg cs, _, h => by
    simp only [VRel] at h ⊢
    obtain ⟨vs, h1, h2⟩ := h
    exact ⟨vs, h1, VRels_ex X h2⟩
  | .tup cs, _, h => by
    simp only [VRel] at h ⊢
    obtain ⟨vs, h1, h2⟩ := h
    exact ⟨vs, h1, VRels_ex X h2⟩
theorem VRels_ex {c c' : Cx} {w w' : World} (X : Ex c w c' w') : ∀ {as : List AV} {vs : List Value}, VRels c w as vs → VRels c' w' as vs
  | [], _, h => by simpa only [VRels] using h
  | a :: as, _, h => by
    simp only [VRels] at h ⊢
    obtain ⟨x, xs, h1, h2, h3⟩ := h
    exact ⟨x, xs, h1, VRel_ex X h2, VRels_ex X h3⟩
theorem CRel_ex {c c' : Cx} {w w' : World} (X : Ex c w c' w') : ∀ {as : List AV} {b o : Nat}, c.Im b → CRel c w as b o → CRel c' w' as b o
  | [], _, _, _, _ => by simp [CRel]
  | a :: as, b, o, hb, h => by
    simp only [CRel] at h ⊢
    obtain ⟨⟨h1, x, h2, h3⟩, h4⟩ := h
    exact ⟨⟨h1, x, by rw [X.im b hb]; exact h2, VRel_ex X h3⟩, CRel_ex X hb h4⟩
theorem ERel_ex {c c' : Cx} {w w' : World} (X : Ex c w c' w') : ∀ {es : List AV} {s b o : Nat}, c.Im b → ERel c w s es b o → ERel c' w' s es b o
  | [], _, _, _, _, _ => by simp [ERel]
  | e :: es, s, b, o, hb, h => by
    simp only [ERel] at h ⊢
    obtain ⟨⟨h1, v, h2, h3, h4⟩, h5⟩ := h
    exact ⟨⟨h1, v, VRel_ex X h2, h3, fun k x hk => by rw [X.im b hb]; exact h4 k x hk⟩, ERel_ex X hb h5⟩
end

/-- elements that lie in a block of one's own, which has not changed -/
theorem ERel_own {c c' : Cx} {w w' : World} (X : Ex c w c' w') {b : Nat} (hb : ∀ o, w'.cell? ⟨b, o, none⟩ = w.cell? ⟨b, o, none⟩) : ∀ {es : List AV} {s o : Nat}, ERel c w s es b o → ERel c' w' s es b o
  | [], _, _, _ => by simp [ERel]
  | e :: es, s, o, h => by
    simp only [ERel] at h ⊢
    obtain ⟨⟨h1, v, h2, h3, h4⟩, h5⟩ := h
    exact ⟨⟨h1, v, VRel_ex X h2, h3, fun k x hk => by rw [hb]; exact h4 k x hk⟩, ERel_own X hb h5⟩

end Go.Proofs.YtilbmpdeginabaaFw
