/- What goes into a call, and what comes back. Conditions: none beside each theorem's own. -/
import Derived.Test.YtilbmpdeginabaaFw8
namespace Go.Proofs.YtilbmpdeginabaaFw
open Go Go.RowKit
set_option linter.unusedSimpArgs false
set_option linter.unusedVariables false

/-- the context a callee sees: what the arguments lead to is not written while it runs -/
def Cx.call (c : Cx) (ls : List (Nat × Nat)) : Cx := { c with Vd := fun t => c.Vd t ∨ (c.Rz t ∧ ∃ j, (j, t) ∈ ls), Rz := fun _ => False }

def Frz (c : Cx) (ls : List (Nat × Nat)) : Cx := { c with Vd := fun t => c.Vd t ∨ (c.Rz t ∧ ∃ j, (j, t) ∈ ls) }

section
variable {P : Program} {c : Cx} {w w' : World} {H : Nat → Option LArr} {base : Nat}

theorem mapO_some {g : AV → Option AV} : ∀ {l r : List AV}, mapO g l = some r → l.length = r.length ∧ ∀ (i : Nat) (a b : AV), l[i]? = some a → r[i]? = some b → g a = some b
  | [], r, h => by simp [mapO] at h; subst h; simp
  | a :: l, r, h => by
    simp only [mapO] at h
    obtain ⟨b, h1, hA⟩ := bind_some h
    obtain ⟨bs, h2, h⟩ := bind_some hA
    simp at h; subst h
    obtain ⟨k1, k2⟩ := mapO_some h2
    refine ⟨by simp [k1], fun i x y hx hy => ?_⟩
    cases i with
    | zero => simp at hx hy; subst hx; subst hy; exact h1
    | succ i => exact k2 i x y (by simpa using hx) (by simpa using hy)

theorem mapO_get {g : AV → Option AV} {l r : List AV} (h : mapO g l = some r) (i : Nat) (b : AV) (hb : r[i]? = some b) : ∃ a, l[i]? = some a ∧ g a = some b := by
  obtain ⟨h1, h2⟩ := mapO_some h
  have hi : i < l.length := by rw [h1]; exact (List.getElem?_eq_some_iff.1 hb).1
  exact ⟨l[i], List.getElem?_eq_getElem hi, h2 i _ _ (List.getElem?_eq_getElem hi) hb⟩

/-- an abstract value and its tree: what a step of 'res' gives -/
def ResOk (c : Cx) (w : World) (ls : List (Nat × Nat)) (a r : AV) : Prop :=
  (a.stor = true → r.stor = true) ∧ (a.one = true → r.one = true) ∧ ∀ v, VRel c w a v → r.tree = true ∧ VRel (c.call ls) w r v

mutual
/-- trees mean the same where their tags are valid -/
theorem VRel_tree {c' : Cx} (p : Nat → Bool) (h0 : c'.N0 = c.N0) (hT : c'.T = c.T) (hV : ∀ t, p t = true → c.Vd t → c'.Vd t) : ∀ {a : AV} {v : Value}, a.tree = true → a.tags.all p = true → VRel c w a v → VRel c' w a v
  | .undef, _, h, _, _ => by simp [AV.tree] at h
  | .bool b, _, _, _, h => by simpa only [VRel] using h
  | .int k n, _, _, _, h => by simpa only [VRel] using h
  | .str s, _, _, _, h => by simpa only [VRel] using h
  | .nilp, _, _, _, h => by simpa only [VRel] using h
  | .nils, _, _, _, h => by simpa only [VRel] using h
  | .ptr j t i f, _, h, _, _ => by simp [AV.tree] at h
  | .eptr cs, _, h, _, _ => by simp [AV.tree] at h
  | .lsl j t s off len, _, h, _, _ => by simp [AV.tree] at h
  | .sl t off s es, _, ht, hp, h => by
    simp only [VRel] at h ⊢
    simp only [AV.tags, List.all_cons, Bool.and_eq_true] at hp
    refine ⟨h.1, ?_⟩
    rcases h.2 with ⟨h0', a, cap, h1, h2, h3⟩ | ⟨h0', h1, h2, h3, h4⟩
    · refine .inl ⟨h0', a, cap, h1, h2, ?_⟩
      rcases h3 with h3 | ⟨b, o, h3, h5, h4⟩
      · exact .inl h3
      · exact .inr ⟨b, o, h3, by rw [h0]; exact h5, ERel_tree p h0 hT hV h.1 hp.2 h4⟩
    · exact .inr ⟨h0', hV t hp.1 h1, by rw [hT]; exact h2, by rw [hT]; exact h3, by rw [hT]; exact ERel_tree p h0 hT hV h.1 hp.2 h4⟩
  | .agg cs, _, ht, hp, h => by
    simp only [VRel] at h ⊢
    obtain ⟨vs, h1, h2⟩ := h
    exact ⟨vs, h1, VRels_tree p h0 hT hV (by simpa [AV.tree] using ht) (by simpa only [AV.tags] using hp) h2⟩
  | .tup cs, _, ht, hp, h => by
    simp only [VRel] at h ⊢
    obtain ⟨vs, h1, h2⟩ := h
    exact ⟨vs, h1, VRels_tree p h0 hT hV (by simpa [AV.tree] using ht) (by simpa only [AV.tags] using hp) h2⟩
theorem VRels_tree {c' : Cx} (p : Nat → Bool) (h0 : c'.N0 = c.N0) (hT : c'.T = c.T) (hV : ∀ t, p t = true → c.Vd t → c'.Vd t) : ∀ {as : List AV} {vs : List Value}, treeL as = true → (tagsL as).all p = true → VRels c w as vs → VRels c' w as vs
  | [], _, _, _, h => by simpa only [VRels] using h
  | a :: as, _, ht, hp, h => by
    simp only [VRels] at h ⊢
    simp only [treeL, Bool.and_eq_true] at ht
    simp only [tagsL, List.all_append, Bool.and_eq_true] at hp
    obtain ⟨x, xs, h1, h2, h3⟩ := h
    exact ⟨x, xs, h1, VRel_tree p h0 hT hV ht.1 hp.1 h2, VRels_tree p h0 hT hV ht.2 hp.2 h3⟩
theorem ERel_tree {c' : Cx} (p : Nat → Bool) (h0 : c'.N0 = c.N0) (hT : c'.T = c.T) (hV : ∀ t, p t = true → c.Vd t → c'.Vd t) : ∀ {es : List AV} {s b o : Nat}, treeL es = true → (tagsL es).all p = true → ERel c w s es b o → ERel c' w s es b o
  | [], _, _, _, _, _, _ => by simp [ERel]
  | e :: es, s, b, o, ht, hp, h => by
    simp only [ERel] at h ⊢
    simp only [treeL, Bool.and_eq_true] at ht
    simp only [tagsL, List.all_append, Bool.and_eq_true] at hp
    obtain ⟨⟨h1, v, h2, h3, h4⟩, h5⟩ := h
    exact ⟨⟨h1, v, VRel_tree p h0 hT hV ht.1 hp.1 h2, h3, h4⟩, ERel_tree p h0 hT hV ht.2 hp.2 h5⟩
end

theorem resOne_ok {st : St} {g : AV → Option AV} {lg : AV → List (Nat × Nat)} {ls : List (Nat × Nat)} (S : Sim c w st.H base) (hg : ∀ a r, g a = some r → lg a ⊆ ls → ResOk c w ls a r) {a r : AV}
    (h : resOne st g a = some r) (hl : locOne st lg a ⊆ ls) : ResOk c w ls a r := by
  cases a <;> simp [resOne] at h
  case bool => subst h; exact ⟨id, id, fun v hv => ⟨rfl, by simpa only [VRel] using hv⟩⟩
  case int => subst h; exact ⟨id, id, fun v hv => ⟨rfl, by simpa only [VRel] using hv⟩⟩
  case str => subst h; exact ⟨id, id, fun v hv => ⟨rfl, by simpa only [VRel] using hv⟩⟩
  case nilp => subst h; exact ⟨id, id, fun v hv => ⟨rfl, by simpa only [VRel] using hv⟩⟩
  case nils => subst h; exact ⟨id, id, fun v hv => ⟨rfl, by simpa only [VRel] using hv⟩⟩
  case sl t off s es =>
    subst h
    refine ⟨id, id, fun v hv => ?_⟩
    have ht : (AV.sl t off s es).tree = true := by
      simp only [VRel] at hv; simpa only [AV.tree] using hv.1
    exact ⟨ht, VRel_tree (c := c) (c' := c.call ls) (fun _ => true) rfl rfl (fun t _ h => Or.inl h) ht (by simp) hv⟩
  case lsl j t s off len =>
    obtain ⟨a, h1, hA⟩ := bind_some h
    obtain ⟨h2, hB⟩ := if_some hA
    obtain ⟨es, h3, h⟩ := bind_some hB
    simp at h; subst h
    obtain ⟨g1, g2⟩ := get_some h1
    subst g2
    simp only [locOne, h1] at hl
    have hjl : (j, a.tag) ∈ ls := hl (by simp)
    obtain ⟨m1, m2⟩ := mapO_some h3
    have hmem : ∀ (i : Nat) (e r : AV), ((a.es.drop off).take len)[i]? = some e → es[i]? = some r → ResOk c w ls e r := fun i e r he hr =>
      hg e r (m2 i e r he hr) (fun x hx => hl (by
        refine List.mem_cons_of_mem _ (List.mem_flatMap.2 ⟨e, List.mem_of_getElem? he, hx⟩)))
    refine ⟨fun _ => rfl, fun _ => rfl, fun v hv => ?_⟩
    simp only [VRel] at hv
    obtain ⟨hr, hs, hSH⟩ := hv
    have hlen : es.length = len := by rw [← m1]; simp; omega
    have ho := S.arr j a g1 hr
    have hel : ∀ (i : Nat) (e : AV), es[i]? = some e → e.tree = true ∧ e.stor = true ∧ ∃ vv, VRel (c.call ls) w e vv ∧ vv.cells.size = s ∧ Stored w vv (c.T a.tag).blk (off * s + i * s) := by
      intro i e he
      obtain ⟨x, x1, x2⟩ := mapO_get h3 i e he
      have hx : a.es[off + i]? = some x := by
        rw [List.getElem?_take] at x1
        split at x1
        · rwa [List.getElem?_drop] at x1
        · simp at x1
      have hc : (c.T a.tag).cap ≠ 0 := by
        have := ho.len; have := (List.getElem?_eq_some_iff.1 hx).1; omega
      obtain ⟨b1, b2, b3, b4⟩ := ho.blk hc
      have hsa : a.s = s := by rw [← ho.s, hs]
      obtain ⟨k1, vv, k2, k3, k4⟩ := ERel_get b4 _ _ hx
      obtain ⟨y2, y3, y4⟩ := hmem i x e x1 he
      rw [hsa, Nat.zero_add, Nat.add_mul] at k4
      exact ⟨(y4 _ k2).1, y2 k1, vv, (y4 _ k2).2, by omega, k4⟩
    have htree : treeL es = true := treeL_iff.2 fun x hx => by
      obtain ⟨i, hi, rfl⟩ := List.mem_iff_getElem.1 hx
      exact (hel i _ (List.getElem?_eq_getElem hi)).1
    refine ⟨htree, ?_⟩
    simp only [VRel]
    exact ⟨htree, .inr ⟨S.pos _ (.inl hr), .inr ⟨hr, j, hjl⟩, hs, by rw [hlen]; exact hSH, ERel_of _ _ (fun i e he => (hel i e he).2)⟩⟩

theorem resVal_ok {st : St} {g : AV → Option AV} {lg : AV → List (Nat × Nat)} {ls : List (Nat × Nat)} (S : Sim c w st.H base) (hg : ∀ a r, g a = some r → lg a ⊆ ls → ResOk c w ls a r) {a r : AV}
    (h : resVal st g a = some r) (hl : locVal st lg a ⊆ ls) : ResOk c w ls a r := by
  cases a
  case agg cs =>
    simp only [resVal] at h
    obtain ⟨rs, h1, h⟩ := bind_some h
    simp at h; subst h
    obtain ⟨m1, m2⟩ := mapO_some h1
    simp only [locVal] at hl
    have hmem : ∀ (i : Nat) (e r : AV), cs[i]? = some e → rs[i]? = some r → ResOk c w ls e r := fun i e r he hr =>
      resOne_ok S hg (m2 i e r he hr) (fun x hx => hl (List.mem_flatMap.2 ⟨e, List.mem_of_getElem? he, hx⟩))
    have fromR : ∀ x ∈ rs, ∃ e ∈ cs, ResOk c w ls e x := fun x hx => by
      obtain ⟨i, hi, rfl⟩ := List.mem_iff_getElem.1 hx
      have hi' : i < cs.length := by rw [m1]; exact hi
      exact ⟨cs[i], List.getElem_mem hi', hmem i _ _ (List.getElem?_eq_getElem hi') (List.getElem?_eq_getElem hi)⟩
    refine ⟨?_, by simp [AV.one], ?_⟩
    · simp only [AV.stor, List.all_eq_true]
      intro ha x hx
      obtain ⟨e, he, hk⟩ := fromR x hx
      exact hk.2.1 (ha e he)
    · intro v hv
      simp only [VRel] at hv
      obtain ⟨vs, rfl, hv⟩ := hv
      have hel : ∀ (i : Nat) (a : AV), rs[i]? = some a → ∃ u, vs.toList[i]? = some u ∧ a.tree = true ∧ VRel (c.call ls) w a u := fun i a ha => by
        obtain ⟨x, x1, x2⟩ := mapO_get h1 i a ha
        obtain ⟨u, u1, u2⟩ := VRels_get hv i x x1
        exact ⟨u, u1, (hmem i x a x1 ha).2.2 _ u2⟩
      refine ⟨?_, ?_⟩
      · simp only [AV.tree]
        refine treeL_iff.2 fun x hx => ?_
        obtain ⟨i, hi, rfl⟩ := List.mem_iff_getElem.1 hx
        obtain ⟨u, _, h, _⟩ := hel i _ (List.getElem?_eq_getElem hi)
        exact h
      · simp only [VRel]
        refine ⟨vs, rfl, VRels_of (by rw [← m1]; exact VRels_length hv) (fun i a v ha hv' => ?_)⟩
        obtain ⟨u, u1, _, u2⟩ := hel i a ha
        rw [hv'] at u1; simp at u1; subst u1; exact u2
  all_goals exact resOne_ok S hg h hl

theorem resD_ok {st : St} {ls : List (Nat × Nat)} (S : Sim c w st.H base) : ∀ (d : Nat) (a r : AV), resD st d a = some r → locD st d a ⊆ ls → ResOk c w ls a r
  | 0, a, r, h, _ => by simp [resD] at h
  | d + 1, a, r, h, hl => resVal_ok S (resD_ok S d) h hl

theorem res_list {st : St} (S : Sim c w st.H base) {as rs : List AV} {vs : List Value} (h : mapO (res st) as = some rs) (hv : VRels c w as vs) :
    treeL rs = true ∧ VRels (c.call (locs st as)) w rs vs := by
  obtain ⟨m1, m2⟩ := mapO_some h
  have hmem : ∀ (i : Nat) (e r : AV), as[i]? = some e → rs[i]? = some r → ResOk c w (locs st as) e r := fun i e r he hr =>
    resD_ok S 6 e r (m2 i e r he hr) (fun x hx => List.mem_flatMap.2 ⟨e, List.mem_of_getElem? he, hx⟩)
  have hel : ∀ (i : Nat) (a : AV), rs[i]? = some a → ∃ u, vs[i]? = some u ∧ a.tree = true ∧ VRel (c.call (locs st as)) w a u := fun i a ha => by
    obtain ⟨x, x1, x2⟩ := mapO_get h i a ha
    obtain ⟨u, u1, u2⟩ := VRels_get hv i x x1
    exact ⟨u, u1, (hmem i x a x1 ha).2.2 _ u2⟩
  refine ⟨treeL_iff.2 fun x hx => ?_, VRels_of (by rw [← m1]; exact VRels_length hv) (fun i a v ha hv' => ?_)⟩
  · obtain ⟨i, hi, rfl⟩ := List.mem_iff_getElem.1 hx
    obtain ⟨u, _, h, _⟩ := hel i _ (List.getElem?_eq_getElem hi)
    exact h
  · obtain ⟨u, u1, _, u2⟩ := hel i a ha
    rw [hv'] at u1; simp at u1; subst u1; exact u2

/-! what comes back -/
/-- k: behind the callee; c': the caller's context behind the call -/
structure Back (k c' : Cx) (ls : List (Nat × Nat)) : Prop where
  n0 : c'.N0 = k.N0
  T : c'.T = k.T
  zero : findLoc 0 ls = none
  vd : ∀ t, findLoc t ls = none → k.Vd t → c'.Vd t
  rz : ∀ t j, findLoc t ls = some j → k.Vd t → c'.Rz t
  none : ∀ t, ¬ k.Rz t

def RelOk (k c' : Cx) (w : World) (a r : AV) : Prop := (a.stor = true → r.stor = true) ∧ (a.one = true → r.one = true) ∧ ∀ v, a.tree = true → VRel k w a v → VRel c' w r v

theorem relOne_ok {k c' : Cx} {ls : List (Nat × Nat)} (B : Back k c' ls) {a r : AV} (h : relOne ls a = some r) : RelOk k c' w a r := by
  cases a <;> simp [relOne] at h
  case undef => subst h; exact ⟨id, id, fun v ht _ => by simp [AV.tree] at ht⟩
  case bool => subst h; exact ⟨id, id, fun v _ hv => by simpa only [VRel] using hv⟩
  case int => subst h; exact ⟨id, id, fun v _ hv => by simpa only [VRel] using hv⟩
  case str => subst h; exact ⟨id, id, fun v _ hv => by simpa only [VRel] using hv⟩
  case nilp => subst h; exact ⟨id, id, fun v _ hv => by simpa only [VRel] using hv⟩
  case nils => subst h; exact ⟨id, id, fun v _ hv => by simpa only [VRel] using hv⟩
  case ptr => subst h; exact ⟨id, id, fun v ht _ => by simp [AV.tree] at ht⟩
  case eptr => subst h; exact ⟨id, id, fun v ht _ => by simp [AV.tree] at ht⟩
  case lsl => subst h; exact ⟨id, id, fun v ht _ => by simp [AV.tree] at ht⟩
  case sl t off s es =>
    cases hf : findLoc t ls with
    | some j =>
      simp [hf] at h; subst h
      refine ⟨fun _ => rfl, fun _ => rfl, fun v _ hv => ?_⟩
      simp only [VRel] at hv ⊢
      rcases hv.2 with ⟨h0, _⟩ | ⟨h0, h1, h2, h3, h4⟩
      · subst h0; rw [B.zero] at hf; simp at hf
      · exact ⟨B.rz t j hf h1, by rw [B.T]; exact h2, by rw [B.T]; exact h3⟩
    | none =>
      simp only [hf] at h
      cases hn : noTag ls (tagsL es) with
      | false => simp [hn] at h
      | true =>
        simp [hn] at h; subst h
        refine ⟨id, id, fun v ht hv => ?_⟩
        refine VRel_tree (c := k) (c' := c') (fun t => (findLoc t ls).isNone) B.n0 B.T (fun t h1 h2 => B.vd t (by simpa using h1) h2) ht ?_ hv
        simp only [AV.tags, List.all_cons, hf, Option.isNone_none, Bool.true_and]
        exact hn

theorem mapO_rel {k c' : Cx} {g : AV → Option AV} {as rs : List AV} {vs : List Value} (hg : ∀ a r, a ∈ as → g a = some r → RelOk k c' w a r) (h : mapO g as = some rs) (ht : treeL as = true) (hv : VRels k w as vs) : VRels c' w rs vs := by
  obtain ⟨m1, m2⟩ := mapO_some h
  refine VRels_of (by rw [← m1]; exact VRels_length hv) (fun i a v ha hv' => ?_)
  obtain ⟨x, x1, x2⟩ := mapO_get h i a ha
  obtain ⟨u, u1, u2⟩ := VRels_get hv i x x1
  rw [hv'] at u1; simp at u1; subst u1
  exact (hg x a (List.mem_of_getElem? x1) x2).2.2 _ (treeL_iff.1 ht x (List.mem_of_getElem? x1)) u2

theorem mapO_of_mem {g : AV → Option AV} {as rs : List AV} (h : mapO g as = some rs) {r : AV} (hr : r ∈ rs) : ∃ a ∈ as, g a = some r := by
  obtain ⟨i, hi, rfl⟩ := List.mem_iff_getElem.1 hr
  obtain ⟨a, h1, h2⟩ := mapO_get h i _ (List.getElem?_eq_getElem hi)
  exact ⟨a, List.mem_of_getElem? h1, h2⟩

/-- cells of a struct value that means something are no structs -/
theorem relVal_ok {k c' : Cx} {ls : List (Nat × Nat)} (B : Back k c' ls) {a r : AV} (h : relVal ls a = some r) : RelOk k c' w a r := by
  cases a
  case agg cs =>
    simp only [relVal] at h
    obtain ⟨rs, h1, h⟩ := bind_some h
    simp at h; subst h
    have hg : ∀ a r, a ∈ cs → relOne ls a = some r → RelOk k c' w a r := fun a r ha h =>
      relOne_ok B h
    refine ⟨?_, by simp [AV.one], fun v ht hv => ?_⟩
    · simp only [AV.stor, List.all_eq_true]
      intro ho x hx
      obtain ⟨a, ha, hax⟩ := mapO_of_mem h1 hx
      exact (hg a x ha hax).2.1 (ho a ha)
    · simp only [VRel] at hv ⊢
      obtain ⟨vs, rfl, hv⟩ := hv
      exact ⟨vs, rfl, mapO_rel hg h1 (by simpa only [AV.tree] using ht) hv⟩
  all_goals exact relOne_ok B h

theorem reloc_ok {k c' : Cx} {ls : List (Nat × Nat)} (B : Back k c' ls) {a r : AV} {v : Value} (h : reloc ls a = some r) (ht : a.tree = true) (hv : VRel k w a v) : VRel c' w r v := by
  unfold reloc at h
  split at h
  · simp at h; subst h
    exact VRel_tree (c := k) (c' := c') (fun _ => true) B.n0 B.T (fun t _ h2 => B.vd t rfl h2) ht (by simp) hv
  · cases a
    case tup cs =>
      simp only [relTup] at h
      obtain ⟨rs, h1, h⟩ := bind_some h
      simp at h; subst h
      simp only [VRel] at hv ⊢
      obtain ⟨vs, rfl, hv⟩ := hv
      exact ⟨vs, rfl, mapO_rel (fun a r _ h => relVal_ok B h) h1 (by simpa only [AV.tree] using ht) hv⟩
    all_goals exact (relVal_ok B (by simpa only [relTup] using h)).2.2 v ht hv

/-- what the arguments lead to is there -/
def LocOk (c : Cx) (H : Nat → Option LArr) (p : Nat × Nat) : Prop := c.Rz p.2 ∧ ∃ a, H p.1 = some a ∧ a.tag = p.2

theorem locOne_ok {st : St} {g : AV → Option AV} {lg : AV → List (Nat × Nat)} (S : Sim c w st.H base) (hg : ∀ a r v, g a = some r → VRel c w a v → ∀ p ∈ lg a, LocOk c st.H p) {a r : AV} {v : Value}
    (h : resOne st g a = some r) (hv : VRel c w a v) : ∀ p ∈ locOne st lg a, LocOk c st.H p := by
  intro p hp
  cases a <;> simp [locOne] at hp
  case lsl j t s off len =>
    simp only [resOne] at h
    obtain ⟨a, h1, hA⟩ := bind_some h
    obtain ⟨h2, hB⟩ := if_some hA
    obtain ⟨es, h3, _⟩ := bind_some hB
    obtain ⟨g1, g2⟩ := get_some h1
    subst g2
    simp only [VRel] at hv
    obtain ⟨hr, hs, hSH⟩ := hv
    rw [h1] at hp
    rcases hp with rfl | hp
    · exact ⟨hr, a, g1, rfl⟩
    · obtain ⟨x, hx, hxp⟩ := List.mem_flatMap.1 hp
      obtain ⟨i, hi, rfl⟩ := List.mem_iff_getElem.1 hx
      have hx' : a.es[off + i]? = some ((a.es.drop off).take len)[i] := by
        have := List.getElem?_eq_getElem hi
        rw [List.getElem?_take] at this
        split at this
        · rwa [List.getElem?_drop] at this
        · simp at this
      have ho := S.arr j a g1 hr
      have hc : (c.T a.tag).cap ≠ 0 := by
        have := ho.len; have := (List.getElem?_eq_some_iff.1 hx').1; omega
      obtain ⟨b1, b2, b3, b4⟩ := ho.blk hc
      obtain ⟨k1, vv, k2, _, _⟩ := ERel_get b4 _ _ hx'
      obtain ⟨m1, m2⟩ := mapO_some h3
      have hi' : i < es.length := by rw [← m1]; exact hi
      exact hg _ _ vv (m2 i _ _ (List.getElem?_eq_getElem hi) (List.getElem?_eq_getElem hi')) k2 p hxp

theorem locVal_ok {st : St} {g : AV → Option AV} {lg : AV → List (Nat × Nat)} (S : Sim c w st.H base) (hg : ∀ a r v, g a = some r → VRel c w a v → ∀ p ∈ lg a, LocOk c st.H p) {a r : AV} {v : Value}
    (h : resVal st g a = some r) (hv : VRel c w a v) : ∀ p ∈ locVal st lg a, LocOk c st.H p := by
  cases a
  case agg cs =>
    intro p hp
    simp only [locVal] at hp
    simp only [resVal] at h
    obtain ⟨rs, h1, _⟩ := bind_some h
    obtain ⟨x, hx, hxp⟩ := List.mem_flatMap.1 hp
    obtain ⟨i, hi, rfl⟩ := List.mem_iff_getElem.1 hx
    obtain ⟨m1, m2⟩ := mapO_some h1
    simp only [VRel] at hv
    obtain ⟨vs, rfl, hv⟩ := hv
    obtain ⟨u, u1, u2⟩ := VRels_get hv i _ (List.getElem?_eq_getElem hi)
    have hi' : i < rs.length := by rw [← m1]; exact hi
    exact locOne_ok S hg (m2 i _ _ (List.getElem?_eq_getElem hi) (List.getElem?_eq_getElem hi')) u2 p hxp
  all_goals exact locOne_ok (lg := lg) S hg (by simpa only [resVal] using h) hv

theorem locD_ok {st : St} (S : Sim c w st.H base) : ∀ (d : Nat) (a r : AV) (v : Value), resD st d a = some r → VRel c w a v → ∀ p ∈ locD st d a, LocOk c st.H p
  | 0, a, r, v, h, _ => by simp [resD] at h
  | d + 1, a, r, v, h, hv => locVal_ok S (locD_ok S d) h hv

theorem locs_ok {st : St} (S : Sim c w st.H base) {as rs : List AV} {vs : List Value} (h : mapO (res st) as = some rs) (hv : VRels c w as vs) : ∀ p ∈ locs st as, LocOk c st.H p := by
  intro p hp
  obtain ⟨x, hx, hxp⟩ := List.mem_flatMap.1 hp
  obtain ⟨i, hi, rfl⟩ := List.mem_iff_getElem.1 hx
  obtain ⟨m1, m2⟩ := mapO_some h
  obtain ⟨u, u1, u2⟩ := VRels_get hv i _ (List.getElem?_eq_getElem hi)
  have hi' : i < rs.length := by rw [← m1]; exact hi
  exact locD_ok S 6 _ _ u (m2 i _ _ (List.getElem?_eq_getElem hi) (List.getElem?_eq_getElem hi')) u2 p hxp

def CallMono (call : Nat → List AV → Nat → Option (AV × Nat)) : Prop := ∀ f as n r n', call f as n = some (r, n') → n ≤ n'

/-- what a callee leaves -/
structure After (c : Cx) (w : World) (n n' : Nat) (r : AV) (x : Value) (c' : Cx) (w' : World) : Prop where
  tree : r.tree = true
  rel : VRel c' w' r x
  ex : Ex c w c' w'
  below : Below w.heap.size w w'
  off : ∀ t, ¬ (n ≤ t ∧ t < n') → c'.T t = c.T t ∧ (c'.Vd t ↔ c.Vd t)
  none : ∀ t, ¬ c'.Rz t
  im : ∀ b, c'.Im b → b < w'.heap.size
  vinj : ∀ t u, c'.Vd t → c'.Vd u → (c'.T t).cap ≠ 0 → (c'.T u).cap ≠ 0 → (c'.T t).blk = (c'.T u).blk → t = u
  pos : ∀ t, c'.Vd t → t ≠ 0
  vblk : ∀ t, c'.Vd t → n ≤ t → t < n' → (c'.T t).cap ≠ 0 → ∃ cs e, w'.heap[(c'.T t).blk]? = some (.cells cs e (0, 0)) ∧ cs.size = (c'.T t).cap * (c'.T t).s
  new : ∀ t, c'.Vd t → n ≤ t → t < n' → (c'.T t).cap ≠ 0 → w.heap.size ≤ (c'.T t).blk

def CallSnd (P : Program) (call : Nat → List AV → Nat → Option (AV × Nat)) : Prop :=
  ∀ f as n r n', call f as n = some (r, n') → ∀ (c : Cx) (w : World) (vals : Array Value), Sim c w (fun _ => none) w.heap.size → (∀ t, ¬ c.Rz t) → treeL as = true → VRels c w as vals.toList →
    (∀ t, n ≤ t → t < n' → Free c t) → Calls P f vals w fun e w' => ∃ x c', e = .returned x ∧ After c w n n' r x c' w'

theorem findLoc_mem {t j : Nat} : ∀ {ls : List (Nat × Nat)}, findLoc t ls = some j → (j, t) ∈ ls
  | [], h => by simp [findLoc] at h
  | (i, u) :: ls, h => by
    simp only [findLoc] at h
    split at h
    · simp at h; subst h; rename_i e; subst e; simp
    · exact List.mem_cons_of_mem _ (findLoc_mem h)

theorem findLoc_none {t j : Nat} : ∀ {ls : List (Nat × Nat)}, findLoc t ls = none → (j, t) ∉ ls
  | [], _ => by simp
  | (i, u) :: ls, h => by
    simp only [findLoc] at h
    split at h
    · simp at h
    · rename_i hne
      intro hm
      rcases List.mem_cons.1 hm with hm | hm
      · simp at hm; exact hne hm.2
      · exact findLoc_none h hm

/-- the caller's context behind a call; q: what is new is valid -/
def Cx.behind (c k : Cx) (n n' : Nat) (q : Prop) : Cx := { N0 := c.N0, T := k.T, Vd := fun t => c.Vd t ∨ (n ≤ t ∧ t < n' ∧ k.Vd t ∧ q), Rz := c.Rz }

/-- a call of a function with a meaning of its own: what the arguments lead to is taken as trees -/
theorem call_core {R : Sys} (CS : CallSnd P R.call) {f : Nat} {args as : List AV} {st : St} {r : AV} {n' : Nat} {vals : Array Value} (S : Sim c w st.H base) (hv : VRels c w args vals.toList)
    (h1 : mapO (res st) args = some as) (h2 : R.call f as st.n = some (r, n')) (F : ∀ t, st.n ≤ t → t < n' → Free c t) :
    Calls P f vals w fun e w' => ∃ x k, e = .returned x ∧ After (c.call (locs st args)) w st.n n' r x k w' ∧ ∀ q : Prop, Post c w base st.n n' (c.behind k st.n n' q) w' ∧ Sim (c.behind k st.n n' q) w' st.H base ∧
      (q → Back k (c.behind k st.n n' q) (locs st args)) := by
  obtain ⟨t1, t2⟩ := res_list S h1 hv
  have hL := locs_ok S h1 hv
  have hRz : ∀ j t, (j, t) ∈ locs st args → c.Rz t → ∃ a, st.H j = some a ∧ a.tag = t := fun j t hj _ => (hL _ hj).2
  -- the tags that the arguments lead to, with their arrays
  have im_call : ∀ b, (c.call (locs st args)).Im b → b < w.heap.size := by
    rintro b (hb | ⟨t, ht, hc, hb⟩)
    · exact Nat.lt_of_lt_of_le hb (Nat.le_trans S.n0 S.hb)
    · rcases ht with ht | ⟨ht, j, hj⟩
      · exact S.im b (.inr ⟨t, ht, hc, hb⟩)
      · obtain ⟨a, ha, e⟩ := hRz j t hj ht
        subst e
        rw [← hb]; exact (S.arr j a ha ht).lt hc
  have mix : ∀ t u, c.Vd t → c.Rz u → (∃ j, (j, u) ∈ locs st args) → (c.T t).cap ≠ 0 → (c.T u).cap ≠ 0 → (c.T t).blk ≠ (c.T u).blk := by
    rintro t u ht hu ⟨j, hj⟩ ct cu e
    obtain ⟨a, ha, e'⟩ := hRz j u hj hu
    subst e'
    exact ((S.arr j a ha hu).blk cu).2.1 (.inr ⟨t, ht, ct, e⟩)
  have S0 : Sim (c.call (locs st args)) w (fun _ => none) w.heap.size := by
    refine ⟨Nat.le_trans S.n0 S.hb, Nat.le_refl _, im_call, ?_, ?_, ?_, ?_, fun t h => h.elim, fun j a h => by simp at h, fun j j' a a' h => by simp at h⟩
    · intro t u ht hu ct cu e
      rcases ht with ht | ⟨ht, j, hj⟩ <;> rcases hu with hu | ⟨hu, j', hj'⟩
      · exact S.vinj t u ht hu ct cu e
      · exact absurd e (mix t u ht hu ⟨j', hj'⟩ ct cu)
      · exact absurd e.symm (mix u t hu ht ⟨j, hj⟩ cu ct)
      · obtain ⟨a, ha, e1⟩ := hRz j t hj ht
        obtain ⟨a', ha', e2⟩ := hRz j' u hj' hu
        subst e1; subst e2
        have := S.inj j j' a a' ha ha' ht hu ct cu e
        subst this
        rw [ha] at ha'; simp at ha'; rw [ha']
    · intro t ht ct
      rcases ht with ht | ⟨ht, j, hj⟩
      · exact S.vb t ht ct
      · obtain ⟨a, ha, e⟩ := hRz j t hj ht
        subst e
        exact Nat.le_trans S.n0 ((S.arr j a ha ht).blk ct).1
    · intro t ht ct
      rcases ht with ht | ⟨ht, j, hj⟩
      · exact S.vblk t ht ct
      · obtain ⟨a, ha, e⟩ := hRz j t hj ht
        subst e
        have ho := S.arr j a ha ht
        obtain ⟨_, _, ⟨cs, el, h1, h2⟩, _⟩ := ho.blk ct
        exact ⟨cs, el, h1, by rw [h2]; show _ = _ * (c.T a.tag).s; rw [ho.s]; rfl⟩
    · rintro t (h | h | ⟨h, _⟩)
      · exact h.elim
      · exact S.pos t (.inr h)
      · exact S.pos t (.inl h)
  have F0 : ∀ t, st.n ≤ t → t < n' → Free (c.call (locs st args)) t := fun t h1 h2 => by
    obtain ⟨a1, a2, a3⟩ := F t h1 h2
    refine ⟨a1, fun h => h, fun h => ?_⟩
    rcases h with h | ⟨h, _⟩
    · exact a3 h
    · exact a2 h
  refine (CS f as st.n r n' h2 (c.call (locs st args)) w vals S0 (fun t h => h) t1 t2 F0).mono ?_
  rintro e w' ⟨x, k, rfl, A⟩
  refine ⟨x, k, rfl, A, fun q => ?_⟩
  let c' : Cx := c.behind k st.n n' q
  have notin : ∀ t, (c.Rz t ∨ c.Vd t) → ¬ (st.n ≤ t ∧ t < n') := fun t ht hh => by
    obtain ⟨_, a2, a3⟩ := F t hh.1 hh.2
    exact ht.elim a2 a3
  have Teq : ∀ t, (c.Rz t ∨ c.Vd t) → k.T t = c.T t := fun t ht => (A.off t (notin t ht)).1
  have X : Ex c w c' w' := ⟨rfl, fun t ht => ⟨ht, Teq t (.inl ht)⟩, fun t ht => ⟨.inl ht, Teq t (.inr ht)⟩, fun b hb o => cell_of_block (A.below.block b (S.im b hb)) o⟩
  have im' : ∀ b, c'.Im b → c.Im b ∨ (w.heap.size ≤ b ∧ b < w'.heap.size) := by
    rintro b (hb | ⟨t, ht, hc, hb⟩)
    · exact .inl (.inl hb)
    · rcases ht with ht | ⟨h1, h2, ht, _⟩
      · left; right
        have := Teq t (.inr ht)
        exact ⟨t, ht, by rw [← this]; exact hc, by rw [← this]; exact hb⟩
      · right
        have := A.new t ht h1 h2 hc
        refine ⟨by rw [← hb]; exact this, A.im b (.inr ⟨t, ht, hc, hb⟩)⟩
  have S' : Sim c' w' st.H base := by
    refine ⟨S.n0, Nat.le_trans S.hb A.below.size, fun b hb => ?_, ?_, ?_, ?_, ?_, ?_, ?_, ?_⟩
    · rcases im' b hb with h | h
      · exact Nat.lt_of_lt_of_le (S.im b h) A.below.size
      · exact h.2
    · intro t u ht hu ct cu e
      have kv : ∀ t, c'.Vd t → k.Vd t := fun t ht => by
        rcases ht with ht | ⟨_, _, ht, _⟩
        · exact ((A.off t (notin t (.inr ht))).2).2 (.inl ht)
        · exact ht
      exact A.vinj t u (kv t ht) (kv u hu) ct cu e
    · intro t ht ct
      rcases ht with ht | ⟨h1, h2, ht, _⟩
      · show c.N0 ≤ (k.T t).blk
        rw [Teq t (.inr ht)]; exact S.vb t ht (by rw [← Teq t (.inr ht)]; exact ct)
      · exact Nat.le_trans (Nat.le_trans S.n0 S.hb) (A.new t ht h1 h2 ct)
    · intro t ht ct
      rcases ht with ht | ⟨h1, h2, ht, _⟩
      · have e : c'.T t = c.T t := Teq t (.inr ht)
        rw [e] at ct ⊢
        obtain ⟨cs, el, h1, h2⟩ := S.vblk t ht ct
        exact ⟨cs, el, by rw [A.below.block _ (S.im _ (.inr ⟨t, ht, ct, rfl⟩))]; exact h1, h2⟩
      · exact A.vblk t ht h1 h2 ct
    · rintro t (ht | ht | ⟨_, _, ht, _⟩)
      · exact S.pos t (.inl ht)
      · exact S.pos t (.inr ht)
      · exact A.pos t ht
    · rintro t ht (hv | ⟨h1, h2, _⟩)
      · exact S.dis t ht hv
      · exact notin t (.inl ht) ⟨h1, h2⟩
    · intro j a ha hr
      have ho := S.arr j a ha hr
      have e : c'.T a.tag = c.T a.tag := Teq _ (.inl hr)
      refine ⟨by rw [e]; exact ho.s, ho.pos, by rw [e]; exact ho.len, fun hc => ?_⟩
      rw [e] at hc ⊢
      obtain ⟨b1, b2, ⟨cs, el, b3, b5⟩, b4⟩ := ho.blk hc
      have hlt := ho.lt hc
      refine ⟨b1, fun hi => ?_, ⟨cs, el, by rw [A.below.block _ hlt]; exact b3, b5⟩, ERel_own X (fun o => cell_of_block (A.below.block _ hlt) o) b4⟩
      rcases im' _ hi with h | h
      · exact b2 h
      · omega
    · intro j j' a a' ha ha' hr hr' hc hc' e
      have e1 : c'.T a.tag = c.T a.tag := Teq _ (.inl hr)
      have e2 : c'.T a'.tag = c.T a'.tag := Teq _ (.inl hr')
      rw [e1] at hc e; rw [e2] at hc' e
      exact S.inj j j' a a' ha ha' hr hr' hc hc' e
  have B : q → Back k c' (locs st args) := fun hq => by
    refine ⟨A.ex.n0.symm, rfl, ?_, ?_, ?_, A.none⟩
    · cases hf : findLoc 0 (locs st args) with
      | none => rfl
      | some j => exact absurd rfl (S.pos 0 (.inl (hL _ (findLoc_mem hf)).1))
    · intro t hf ht
      by_cases hin : st.n ≤ t ∧ t < n'
      · exact .inr ⟨hin.1, hin.2, ht, hq⟩
      · rcases ((A.off t hin).2).1 ht with h | ⟨_, j, hj⟩
        · exact .inl h
        · exact absurd hj (findLoc_none hf)
    · intro t j hf _
      exact (hL _ (findLoc_mem hf)).1
  refine ⟨⟨X, ⟨A.below.os, A.below.tape, A.below.output, A.below.size, fun i hi => A.below.block i (Nat.lt_of_lt_of_le hi S.hb)⟩, fun t ht => ?_, fun t ht hc => ht.elim .inl fun h => .inr (Nat.le_trans S.hb (A.new t h.2.2.1 h.1 h.2.1 hc))⟩, S', B⟩
  refine ⟨(A.off t ht).1, Iff.rfl, ⟨fun h => ?_, .inl⟩⟩
  rcases h with h | ⟨h1, h2, _⟩
  · exact h
  · exact absurd ⟨h1, h2⟩ ht

end
end Go.Proofs.YtilbmpdeginabaaFw
