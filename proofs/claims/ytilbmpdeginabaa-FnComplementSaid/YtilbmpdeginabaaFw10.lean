/- A call's new slices made local arrays. Conditions: none beside each theorem's own. -/
import Derived.Test.YtilbmpdeginabaaFw9
namespace Go.Proofs.YtilbmpdeginabaaFw
open Go Go.RowKit
set_option linter.unusedSimpArgs false
set_option linter.unusedVariables false

mutual
def AV.noE : AV → Bool
  | .eptr _ => false
  | .sl _ _ _ es => noEL es
  | .agg cs => noEL cs
  | .tup cs => noEL cs
  | _ => true
def noEL : List AV → Bool
  | [] => true
  | v :: vs => v.noE && noEL vs
end

mutual
theorem tree_noE : ∀ {v : AV}, v.tree = true → v.noE = true
  | .undef, h => by simp [AV.tree] at h
  | .bool _, _ => rfl
  | .int _ _, _ => rfl
  | .str _, _ => rfl
  | .nilp, _ => rfl
  | .nils, _ => rfl
  | .ptr .., h => by simp [AV.tree] at h
  | .eptr _, h => by simp [AV.tree] at h
  | .lsl .., h => by simp [AV.tree] at h
  | .sl t o s es, h => by simp only [AV.tree, AV.noE] at *; exact treeL_noE h
  | .agg cs, h => by simp only [AV.tree, AV.noE] at *; exact treeL_noE h
  | .tup cs, h => by simp only [AV.tree, AV.noE] at *; exact treeL_noE h
theorem treeL_noE : ∀ {l : List AV}, treeL l = true → noEL l = true
  | [], _ => rfl
  | v :: l, h => by
    simp only [treeL, Bool.and_eq_true] at h
    simp only [noEL, Bool.and_eq_true]
    exact ⟨tree_noE h.1, treeL_noE h.2⟩
end

section
variable {P : Program} {c : Cx} {w w' : World} {H : Nat → Option LArr} {base : Nat}

mutual
theorem VRel_noE {c' : Cx} (p : Nat → Bool) (h0 : c'.N0 = c.N0) (hT : c'.T = c.T) (hR : ∀ t, c.Rz t → c'.Rz t) (hV : ∀ t, p t = true → c.Vd t → c'.Vd t) : ∀ {a : AV} {v : Value}, a.noE = true → a.tags.all p = true → VRel c w a v → VRel c' w a v
  | .undef, _, _, _, _ => by simp [VRel]
  | .bool b, _, _, _, h => by simpa only [VRel] using h
  | .int k n, _, _, _, h => by simpa only [VRel] using h
  | .str s, _, _, _, h => by simpa only [VRel] using h
  | .nilp, _, _, _, h => by simpa only [VRel] using h
  | .nils, _, _, _, h => by simpa only [VRel] using h
  | .ptr j t i f, _, _, _, h => by simp only [VRel] at h ⊢; rw [hT]; exact ⟨hR t h.1, h.2⟩
  | .eptr cs, _, h, _, _ => by simp [AV.noE] at h
  | .lsl j t s off len, _, _, _, h => by simp only [VRel] at h ⊢; rw [hT]; exact ⟨hR t h.1, h.2⟩
  | .sl t off s es, _, ht, hp, h => by
    simp only [VRel] at h ⊢
    simp only [AV.tags, List.all_cons, Bool.and_eq_true] at hp
    simp only [AV.noE] at ht
    refine ⟨h.1, ?_⟩
    rcases h.2 with ⟨h0', a, cap, h1, h2, h3⟩ | ⟨h0', h1, h2, h3, h4⟩
    · refine .inl ⟨h0', a, cap, h1, h2, ?_⟩
      rcases h3 with h3 | ⟨b, o, h3, h5, h4⟩
      · exact .inl h3
      · exact .inr ⟨b, o, h3, by rw [h0]; exact h5, ERel_noE p h0 hT hR hV ht hp.2 h4⟩
    · exact .inr ⟨h0', hV t hp.1 h1, by rw [hT]; exact h2, by rw [hT]; exact h3, by rw [hT]; exact ERel_noE p h0 hT hR hV ht hp.2 h4⟩
  | .agg cs, _, ht, hp, h => by
    simp only [VRel] at h ⊢
    obtain ⟨vs, h1, h2⟩ := h
    exact ⟨vs, h1, VRels_noE p h0 hT hR hV (by simpa only [AV.noE] using ht) (by simpa only [AV.tags] using hp) h2⟩
  | .tup cs, _, ht, hp, h => by
    simp only [VRel] at h ⊢
    obtain ⟨vs, h1, h2⟩ := h
    exact ⟨vs, h1, VRels_noE p h0 hT hR hV (by simpa only [AV.noE] using ht) (by simpa only [AV.tags] using hp) h2⟩
theorem VRels_noE {c' : Cx} (p : Nat → Bool) (h0 : c'.N0 = c.N0) (hT : c'.T = c.T) (hR : ∀ t, c.Rz t → c'.Rz t) (hV : ∀ t, p t = true → c.Vd t → c'.Vd t) : ∀ {as : List AV} {vs : List Value}, noEL as = true → (tagsL as).all p = true → VRels c w as vs → VRels c' w as vs
  | [], _, _, _, h => by simpa only [VRels] using h
  | a :: as, _, ht, hp, h => by
    simp only [VRels] at h ⊢
    simp only [noEL, Bool.and_eq_true] at ht
    simp only [tagsL, List.all_append, Bool.and_eq_true] at hp
    obtain ⟨x, xs, h1, h2, h3⟩ := h
    exact ⟨x, xs, h1, VRel_noE p h0 hT hR hV ht.1 hp.1 h2, VRels_noE p h0 hT hR hV ht.2 hp.2 h3⟩
theorem ERel_noE {c' : Cx} (p : Nat → Bool) (h0 : c'.N0 = c.N0) (hT : c'.T = c.T) (hR : ∀ t, c.Rz t → c'.Rz t) (hV : ∀ t, p t = true → c.Vd t → c'.Vd t) : ∀ {es : List AV} {s b o : Nat}, noEL es = true → (tagsL es).all p = true → ERel c w s es b o → ERel c' w s es b o
  | [], _, _, _, _, _, _ => by simp [ERel]
  | e :: es, s, b, o, ht, hp, h => by
    simp only [ERel] at h ⊢
    simp only [noEL, Bool.and_eq_true] at ht
    simp only [tagsL, List.all_append, Bool.and_eq_true] at hp
    obtain ⟨⟨h1, v, h2, h3, h4⟩, h5⟩ := h
    exact ⟨⟨h1, v, VRel_noE p h0 hT hR hV ht.1 hp.1 h2, h3, h4⟩, ERel_noE p h0 hT hR hV ht.2 hp.2 h5⟩
end

def WS (st : St) : Prop := ∀ i a, st.H i = some a → a.tag < st.n ∧ i < st.m

/-- the tags that are still to be made local: in the great context they are valid, in the running one they are nothing yet -/
structure ThI (cN c : Cx) (w : World) (base : Nat) (st : St) (ts : List Nat) : Prop where
  sim : Sim c w st.H base
  ws : WS st
  n0 : c.N0 = cN.N0
  T : c.T = cN.T
  inj : ∀ t u, cN.Vd t → cN.Vd u → (cN.T t).cap ≠ 0 → (cN.T u).cap ≠ 0 → (cN.T t).blk = (cN.T u).blk → t = u
  tag : ∀ t ∈ ts, t ≠ 0 ∧ t < st.n ∧ ¬ c.Rz t ∧ ¬ c.Vd t ∧ cN.Vd t
  blk : ∀ t ∈ ts, (cN.T t).cap ≠ 0 → base ≤ (cN.T t).blk ∧ ¬ c.Im (cN.T t).blk ∧ ∃ cs e, w.heap[(cN.T t).blk]? = some (.cells cs e (0, 0)) ∧ cs.size = (cN.T t).cap * (cN.T t).s
  sep : ∀ t ∈ ts, ∀ j a, st.H j = some a → c.Rz a.tag → (cN.T a.tag).cap ≠ 0 → (cN.T t).cap ≠ 0 → (cN.T a.tag).blk ≠ (cN.T t).blk
  fresh : ∀ t ∈ ts, ∀ j a, st.H j = some a → a.tag ≠ t

/-- a step: the tags ts are local now -/
structure ThS (ts : List Nat) (c c' : Cx) (st st' : St) : Prop where
  n0 : c'.N0 = c.N0
  T : c'.T = c.T
  vd : c'.Vd = c.Vd
  rz : ∀ t, c'.Rz t ↔ (c.Rz t ∨ t ∈ ts)
  old : ∀ j a, st'.H j = some a → st.H j = some a ∨ a.tag ∈ ts
  n : st'.n = st.n

theorem ThI.sub {cN c : Cx} {st : St} {ts us : List Nat} (I : ThI cN c w base st ts) (h : ∀ t ∈ us, t ∈ ts) : ThI cN c w base st us :=
  ⟨I.sim, I.ws, I.n0, I.T, I.inj, fun t ht => I.tag t (h t ht), fun t ht => I.blk t (h t ht), fun t ht => I.sep t (h t ht), fun t ht => I.fresh t (h t ht)⟩

theorem im_vd {c c' : Cx} (h0 : c'.N0 = c.N0) (hT : c'.T = c.T) (hV : c'.Vd = c.Vd) (b : Nat) : c'.Im b ↔ c.Im b := by
  unfold Cx.Im; rw [h0, hT, hV]

/-- what is pending stays so behind a step -/
theorem ThI.step {cN c c' : Cx} {st st' : St} {ts us : List Nat} (I : ThI cN c w base st (ts ++ us)) (hn : (ts ++ us).Nodup) (S : ThS ts c c' st st') (S' : Sim c' w st'.H base) (W : WS st') : ThI cN c' w base st' us := by
  obtain ⟨_, _, hd⟩ := List.nodup_append.1 hn
  refine ⟨S', W, S.n0.trans I.n0, S.T.trans I.T, I.inj, fun t ht => ?_, fun t ht hc => ?_, fun t ht j a hj hr ca ct => ?_, fun t ht j a hj e => ?_⟩
  · obtain ⟨h1, h2, h3, h4, h5⟩ := I.tag t (List.mem_append_right _ ht)
    refine ⟨h1, by rw [S.n]; exact h2, fun h => ?_, by rw [S.vd]; exact h4, h5⟩
    rcases (S.rz t).1 h with h | h
    · exact h3 h
    · exact hd t h t ht rfl
  · obtain ⟨h1, h2, h3⟩ := I.blk t (List.mem_append_right _ ht) hc
    exact ⟨h1, fun h => h2 ((im_vd S.n0 S.T S.vd _).1 h), h3⟩
  · rcases S.old j a hj with h | h
    · by_cases hin : a.tag ∈ ts
      · intro e
        have h5 := (I.tag a.tag (List.mem_append_left _ hin)).2.2.2.2
        have h6 := (I.tag t (List.mem_append_right _ ht)).2.2.2.2
        exact hd a.tag hin t ht (I.inj _ _ h5 h6 ca ct e)
      · exact I.sep t (List.mem_append_right _ ht) j a h (((S.rz _).1 hr).resolve_right hin) ca ct
    · intro e
      have h5 := (I.tag a.tag (List.mem_append_left _ h)).2.2.2.2
      have h6 := (I.tag t (List.mem_append_right _ ht)).2.2.2.2
      exact hd a.tag h t ht (I.inj _ _ h5 h6 ca ct e)
  · rcases S.old j a hj with h | h
    · exact I.fresh t (List.mem_append_right _ ht) j a h e
    · exact hd a.tag h t ht e

theorem ThS.refl (c : Cx) (st : St) : ThS [] c c st st := ⟨rfl, rfl, rfl, fun t => by simp, fun j a h => .inl h, rfl⟩
theorem ThS.trans {ts us : List Nat} {c c1 c2 : Cx} {st s1 s2 : St} (h : ThS ts c c1 st s1) (k : ThS us c1 c2 s1 s2) : ThS (ts ++ us) c c2 st s2 := by
  refine ⟨k.n0.trans h.n0, k.T.trans h.T, k.vd.trans h.vd, fun t => ?_, fun j a hj => ?_, k.n.trans h.n⟩
  · rw [k.rz, h.rz, List.mem_append, or_assoc]
  · rcases k.old j a hj with e | e
    · rcases h.old j a e with e | e
      · exact .inl e
      · exact .inr (List.mem_append_left _ e)
    · exact .inr (List.mem_append_right _ e)

/-- the outcome for one value -/
structure ThV (v v' : AV) : Prop where
  noE : v'.noE = true
  stor : v.stor = true → v'.stor = true
  one : v.one = true → v'.one = true

def ThOk (cN : Cx) (w : World) (base : Nat) (g : AV → St → Option (AV × St)) : Prop :=
  ∀ (v : AV) (st : St) (v' : AV) (st' : St) (c : Cx) (x : Value), g v st = some (v', st') → v.tags.Nodup → v.tree = true → VRel cN w v x → ThI cN c w base st v.tags →
    ∃ c', VRel c' w v' x ∧ Sim c' w st'.H base ∧ WS st' ∧ ThS v.tags c c' st st' ∧ ThV v v'

theorem stepV {ts : List Nat} {c c' : Cx} {st st' : St} (S : ThS ts c c' st st') {a : AV} {x : Value} (ha : a.noE = true) (h : VRel c w a x) : VRel c' w a x :=
  VRel_noE (c := c) (c' := c') (fun _ => true) S.n0 S.T (fun t ht => (S.rz t).2 (.inl ht)) (fun t _ h => by rw [S.vd]; exact h) ha (by simp) h

theorem mapS_ok {cN : Cx} {g : AV → St → Option (AV × St)} (G : ThOk cN w base g) : ∀ (vs : List AV) (st : St) (vs' : List AV) (st' : St) (c : Cx) (xs : List Value), mapS g vs st = some (vs', st') → (tagsL vs).Nodup →
    treeL vs = true → VRels cN w vs xs → ThI cN c w base st (tagsL vs) → ∃ c', VRels c' w vs' xs ∧ Sim c' w st'.H base ∧ WS st' ∧ ThS (tagsL vs) c c' st st' ∧ noEL vs' = true ∧
      (vs.all AV.one = true → vs'.all AV.one = true) ∧ (∀ (i : Nat) (a b : AV), vs[i]? = some a → vs'[i]? = some b → a.stor = true → b.stor = true)
  | [], st, vs', st', c, xs, h, _, _, hv, I => by
    simp [mapS] at h
    obtain ⟨rfl, rfl⟩ := h
    simp only [VRels] at hv; subst hv
    exact ⟨c, by simp [VRels], I.sim, I.ws, ThS.refl _ _, rfl, fun h => h, fun i a b h => by simp at h⟩
  | v :: vs, st, vs', st', c, xs, h, hn, ht, hv, I => by
    simp only [mapS] at h
    obtain ⟨p, h1, hA⟩ := bind_some h
    obtain ⟨q, h2, hB⟩ := bind_some hA
    simp at hB
    obtain ⟨rfl, rfl⟩ := hB
    simp only [tagsL] at hn I ⊢
    simp only [treeL, Bool.and_eq_true] at ht
    simp only [VRels] at hv
    obtain ⟨x, ys, rfl, hx, hys⟩ := hv
    obtain ⟨hn1, hn2, hn3⟩ := List.nodup_append.1 hn
    obtain ⟨c1, a1, a2, a3, a4, a5⟩ := G v st p.1 p.2 c x h1 hn1 ht.1 hx (I.sub fun t h => List.mem_append_left _ h)
    obtain ⟨c2, b1, b2, b3, b4, b5, b6, b7⟩ := mapS_ok G vs p.2 q.1 q.2 c1 ys h2 hn2 ht.2 hys (I.step hn a4 a2 a3)
    refine ⟨c2, by simp only [VRels]; exact ⟨x, ys, rfl, stepV b4 a5.noE a1, b1⟩, b2, b3, a4.trans b4, by simp only [noEL, Bool.and_eq_true]; exact ⟨a5.noE, b5⟩, ?_, ?_⟩
    · intro h
      simp only [List.all_cons, Bool.and_eq_true] at h ⊢
      exact ⟨a5.one h.1, b6 h.2⟩
    · intro i a b ha hb hs
      cases i with
      | zero => simp at ha hb; subst ha; subst hb; exact a5.stor hs
      | succ i => exact b7 i a b (by simpa using ha) (by simpa using hb) hs

theorem mapS_length {g : AV → St → Option (AV × St)} : ∀ {vs : List AV} {st : St} {vs' : List AV} {st' : St}, mapS g vs st = some (vs', st') → vs'.length = vs.length
  | [], st, vs', st', h => by simp [mapS] at h; rw [h.1]
  | v :: vs, st, vs', st', h => by
    simp only [mapS] at h
    obtain ⟨p, h1, hA⟩ := bind_some h
    obtain ⟨q, h2, hB⟩ := bind_some hA
    simp at hB
    rw [← hB.1]; simp [mapS_length h2]

/-- elements' values out of a row, as a list -/
theorem ERel_vals {s b : Nat} : ∀ (es : List AV) (o : Nat), ERel c w s es b o → ∃ xs : List Value, VRels c w es xs ∧ (∀ e ∈ es, e.stor = true) ∧ ∀ (i : Nat) (x : Value), xs[i]? = some x → x.cells.size = s ∧ Stored w x b (o + i * s)
  | [], o, _ => ⟨[], by simp [VRels], by simp, by simp⟩
  | e :: es, o, h => by
    simp only [ERel] at h
    obtain ⟨⟨h1, v, h2, h3, h4⟩, h5⟩ := h
    obtain ⟨xs, k1, k3, k2⟩ := ERel_vals es (o + s) h5
    refine ⟨v :: xs, by simp only [VRels]; exact ⟨v, xs, rfl, h2, k1⟩, fun e he => by
      rcases List.mem_cons.1 he with rfl | he
      · exact h1
      · exact k3 e he, fun i x hi => ?_⟩
    cases i with
    | zero => simp at hi; subst hi; simpa using ⟨h3, h4⟩
    | succ i =>
      have := k2 i x (by simpa using hi)
      rwa [show o + s + i * s = o + (i + 1) * s by rw [Nat.add_mul]; omega] at this

/-- nothing to thaw -/
theorem th_none {cN c : Cx} {st : St} {v : AV} {x : Value} (ht : v.tree = true) (hv : VRel cN w v x) (I : ThI cN c w base st v.tags) (h0 : v.tags = []) : ∃ c', VRel c' w v x ∧ Sim c' w st.H base ∧ WS st ∧ ThS v.tags c c' st st ∧ ThV v v := by
  refine ⟨c, VRel_tree (c := cN) (c' := c) (fun _ => false) I.n0 I.T (fun t h => by simp at h) ht (by rw [h0]; rfl) hv, I.sim, I.ws, by rw [h0]; exact ThS.refl _ _, tree_noE ht, fun h => h, fun h => h⟩

theorem thOne_ok {cN : Cx} {g : AV → St → Option (AV × St)} (G : ThOk cN w base g) : ThOk cN w base (thOne g) := by
  intro v st v' st' c x h hn ht hv I
  cases v
  case sl t off s es =>
    simp only [thOne] at h
    obtain ⟨⟨rfl, hs0⟩, hA⟩ := if_some h
    obtain ⟨p, h1, hB⟩ := bind_some hA
    simp at hB
    obtain ⟨rfl, rfl⟩ := hB
    simp only [AV.tags] at hn I ⊢
    obtain ⟨hn1, hn2⟩ := List.nodup_cons.1 hn
    simp only [AV.tree] at ht
    simp only [VRel] at hv
    obtain ⟨t1, t2, t3, t4, t5⟩ := I.tag t (by simp)
    obtain ⟨hT0, hV, hs, hSH, hE⟩ := hv.2.resolve_left (fun h => t1 h.1)
    rw [Nat.zero_mul] at hE
    obtain ⟨xs, e1, e3, e2⟩ := ERel_vals es 0 hE
    obtain ⟨c1, b1, b2, b3, b4, b5, b6, b7⟩ := mapS_ok G es st p.1 p.2 c xs h1 hn2 ht e1 (I.sub fun t h => List.mem_cons_of_mem _ h)
    have hlen := mapS_length h1
    have I1 : ThI cN c1 w base p.2 [t] := ThI.step (ts := tagsL es) (us := [t]) (I.sub fun u h => by
      rcases List.mem_append.1 h with h | h
      · exact List.mem_cons_of_mem _ h
      · simp at h; subst h; simp) (by
        rw [List.nodup_append]
        refine ⟨hn2, by simp, fun a ha b hb e => ?_⟩
        simp at hb; subst hb; subst e; exact hn1 ha) b4 b2 b3
    obtain ⟨u1, u2, u3, u4, u5⟩ := I1.tag t (by simp)
    let c' : Cx := { c1 with Rz := fun u => u = t ∨ c1.Rz u }
    have X : Ex c1 w c' w := ⟨rfl, fun u h => ⟨.inr h, rfl⟩, fun u h => ⟨h, rfl⟩, fun _ _ _ => rfl⟩
    have hT1 : c1.T = cN.T := I1.T
    obtain ⟨ad, cap, hxe, z1, z2, z3⟩ := hSH
    rw [Nat.zero_add] at z1
    have hget : ∀ j a, (bif Nat.beq j p.2.m then some ({ tag := t, s := s, es := p.1 } : LArr) else p.2.H j) = some a → (j = p.2.m ∧ a = { tag := t, s := s, es := p.1 }) ∨ (j ≠ p.2.m ∧ p.2.H j = some a) := by
      intro j a h
      cases e : Nat.beq j p.2.m with
      | true => rw [e] at h; simp at h; exact .inl ⟨Nat.eq_of_beq_eq_true e, h.symm⟩
      | false => rw [e] at h; exact .inr ⟨fun e' => by subst e'; rw [Nat.beq_refl] at e; simp at e, h⟩
    have hrz : ∀ {j a}, p.2.H j = some a → c'.Rz a.tag → c1.Rz a.tag ∨ a.tag = t := fun _ h => h.symm
    -- an array of the elder ones does not bear the tag t and is not realized by it
    have W' : WS { H := fun i => bif Nat.beq i p.2.m then some { tag := t, s := s, es := p.1 } else p.2.H i, m := p.2.m + 1, n := p.2.n } := by
      intro j a h
      rcases hget j a h with ⟨rfl, rfl⟩ | ⟨_, h⟩
      · exact ⟨u2, Nat.lt_succ_self _⟩
      · have := b3 j a h; exact ⟨this.1, Nat.lt_succ_of_lt this.2⟩
    have S' : Sim c' w (fun i => bif Nat.beq i p.2.m then some { tag := t, s := s, es := p.1 } else p.2.H i) base := by
      refine ⟨b2.n0, b2.hb, b2.im, b2.vinj, b2.vb, b2.vblk, ?_, ?_, ?_, ?_⟩
      · rintro u ((rfl | h) | h)
        · exact u1
        · exact b2.pos u (.inl h)
        · exact b2.pos u (.inr h)
      · rintro u (rfl | h)
        · exact u4
        · exact b2.dis u h
      · intro j a h hr
        rcases hget j a h with ⟨rfl, rfl⟩ | ⟨hj, h⟩
        · refine ⟨by show (c1.T t).s = s; rw [hT1]; exact hs, hs0, by show p.1.length ≤ (c1.T t).cap; rw [hT1, hlen]; omega, fun hc => ?_⟩
          have hc' : (cN.T t).cap ≠ 0 := by rw [← hT1]; exact hc
          obtain ⟨d1, d2, cs, e, d3, d4⟩ := I1.blk t (by simp) hc'
          show base ≤ (c1.T t).blk ∧ _
          rw [hT1]
          refine ⟨d1, d2, ⟨cs, e, d3, by rw [d4, hs]⟩, ERel_of _ _ (fun i e he => ?_)⟩
          have hi : i < es.length := by rw [← hlen]; exact (List.getElem?_eq_some_iff.1 he).1
          obtain ⟨y, y1, y2⟩ := VRels_get b1 i e he
          obtain ⟨y3, y4⟩ := e2 i y y1
          exact ⟨b7 i _ _ (List.getElem?_eq_getElem hi) he (e3 _ (List.getElem_mem hi)), y, VRel_ex X y2, y3, y4⟩
        · rcases hr with hr | hr
          · exfalso
            exact I1.fresh t (by simp) j a h hr
          · have ho := b2.arr j a h hr
            refine ⟨ho.s, ho.pos, ho.len, fun hc => ?_⟩
            obtain ⟨d1, d2, d3, d4⟩ := ho.blk hc
            exact ⟨d1, d2, d3, ERel_own X (fun _ => rfl) d4⟩
      · intro j j' a a' h h' hr hr' hc hc' e
        have ne : ∀ {j a}, p.2.H j = some a → c'.Rz a.tag → c1.Rz a.tag := fun h hr => hr.resolve_left (I1.fresh t (by simp) _ _ h)
        have hcN : ∀ u, c'.T u = cN.T u := fun u => by show c1.T u = _; rw [hT1]
        rw [hcN] at hc hc' e
        rw [hcN] at e
        rcases hget j a h with ⟨rfl, rfl⟩ | ⟨hj, h⟩ <;> rcases hget j' a' h' with ⟨rfl, rfl⟩ | ⟨hj', h'⟩
        · rfl
        · exact absurd e.symm (I1.sep t (by simp) j' a' h' (ne h' hr') hc' hc)
        · exact absurd e (I1.sep t (by simp) j a h (ne h hr) hc hc')
        · exact b2.inj j j' a a' h h' (ne h hr) (ne h' hr') (by rw [hT1]; exact hc) (by rw [hT1]; exact hc') (by rw [hT1]; exact e)
    refine ⟨c', ?_, S', W', ?_, rfl, fun _ => rfl, fun _ => rfl⟩
    · simp only [VRel]
      refine ⟨.inl rfl, by show (c1.T t).s = s; rw [hT1]; exact hs, ad, cap, hxe, ?_, z2, ?_⟩
      · show 0 + cap = (c1.T t).cap; rw [hT1]; omega
      · show cap = 0 ∨ ad = some ⟨(c1.T t).blk, 0 * (c1.T t).s, none⟩; rw [hT1]; exact z3
    · refine ⟨b4.n0, b4.T, b4.vd, fun u => ?_, fun j a h => ?_, b4.n⟩
      · show (u = t ∨ c1.Rz u) ↔ _
        rw [b4.rz, List.mem_cons]
        constructor
        · rintro (h | h | h)
          · exact .inr (.inl h)
          · exact .inl h
          · exact .inr (.inr h)
        · rintro (h | h | h)
          · exact .inr (.inl h)
          · exact .inl h
          · exact .inr (.inr h)
      · rcases hget j a h with ⟨rfl, rfl⟩ | ⟨_, h⟩
        · exact .inr (by simp)
        · rcases b4.old j a h with h | h
          · exact .inl h
          · exact .inr (List.mem_cons_of_mem _ h)
  case agg cs => simp [thOne] at h
  case tup cs => simp [thOne] at h
  all_goals
    first
    | (simp [AV.tree] at ht; done)
    | (simp only [thOne] at h
       simp at h
       obtain ⟨rfl, rfl⟩ := h
       exact th_none ht hv I rfl)

theorem thVal_ok {cN : Cx} {g : AV → St → Option (AV × St)} (G : ThOk cN w base g) : ThOk cN w base (thVal g) := by
  intro v st v' st' c x h hn ht hv I
  cases v
  case agg cs =>
    simp only [thVal] at h
    obtain ⟨p, h1, hB⟩ := bind_some h
    simp at hB
    obtain ⟨rfl, rfl⟩ := hB
    simp only [AV.tags] at hn I ⊢
    simp only [AV.tree] at ht
    simp only [VRel] at hv
    obtain ⟨vs, rfl, hv⟩ := hv
    obtain ⟨c1, b1, b2, b3, b4, b5, b6, b7⟩ := mapS_ok (thOne_ok G) cs st p.1 p.2 c vs.toList h1 hn ht hv I
    exact ⟨c1, by simp only [VRel]; exact ⟨vs, rfl, b1⟩, b2, b3, b4, by simpa only [AV.noE] using b5, b6, by simp [AV.one]⟩
  all_goals exact thOne_ok G _ st v' st' c x (by simpa only [thVal] using h) hn ht hv I

theorem thD_ok {cN : Cx} : ∀ d : Nat, ThOk cN w base (thD d)
  | 0 => by
    intro v st v' st' c x h hn ht hv I
    simp only [thD] at h
    split at h
    · rename_i e
      simp at h
      obtain ⟨rfl, rfl⟩ := h
      exact th_none ht hv I e
    · simp at h
  | d + 1 => thVal_ok (thD_ok d)

theorem nodupB_iff : ∀ {l : List Nat}, nodupB l = true → l.Nodup
  | [], _ => List.nodup_nil
  | t :: l, h => by
    simp only [nodupB, Bool.and_eq_true, Bool.not_eq_true'] at h
    refine List.nodup_cons.2 ⟨fun hm => ?_, nodupB_iff h.2⟩
    have := h.1
    rw [List.contains_iff_mem.2 hm] at this
    simp at this

theorem thTup_ok {cN : Cx} (d : Nat) : ThOk cN w base (thTup d) := by
  intro v st v' st' c x h hn ht hv I
  cases v
  case tup cs =>
    simp only [thTup] at h
    obtain ⟨p, h1, hB⟩ := bind_some h
    simp at hB
    obtain ⟨rfl, rfl⟩ := hB
    simp only [AV.tags] at hn I ⊢
    simp only [AV.tree] at ht
    simp only [VRel] at hv
    obtain ⟨vs, rfl, hv⟩ := hv
    obtain ⟨c1, b1, b2, b3, b4, b5, b6, b7⟩ := mapS_ok (thD_ok d) cs st p.1 p.2 c vs.toList h1 hn ht hv I
    exact ⟨c1, by simp only [VRel]; exact ⟨vs, rfl, b1⟩, b2, b3, b4, by simpa only [AV.noE] using b5, by simp [AV.stor, AV.one], by simp [AV.one]⟩
  all_goals exact thD_ok d _ st v' st' c x (by simpa only [thTup] using h) hn ht hv I

theorem mapS_n {g : AV → St → Option (AV × St)} (G : ∀ v st v' st', g v st = some (v', st') → st'.n = st.n) : ∀ {vs : List AV} {st : St} {vs' : List AV} {st' : St}, mapS g vs st = some (vs', st') → st'.n = st.n
  | [], st, vs', st', h => by simp [mapS] at h; rw [h.2]
  | v :: vs, st, vs', st', h => by
    simp only [mapS] at h
    obtain ⟨p, h1, hA⟩ := bind_some h
    obtain ⟨q, h2, hB⟩ := bind_some hA
    simp at hB
    rw [← hB.2, mapS_n G h2]; exact G _ _ _ _ h1

theorem thOne_n {g : AV → St → Option (AV × St)} (G : ∀ v st v' st', g v st = some (v', st') → st'.n = st.n) {v : AV} {st : St} {v' : AV} {st' : St} (h : thOne g v st = some (v', st')) : st'.n = st.n := by
  cases v <;> simp only [thOne] at h
  case sl =>
    obtain ⟨_, hA⟩ := if_some h
    obtain ⟨p, h1, hB⟩ := bind_some hA
    simp at hB
    rw [← hB.2]; exact mapS_n (st' := p.2) G h1
  all_goals
    first
    | (simp at h; done)
    | (simp at h; rw [h.2])

theorem thD_n : ∀ (d : Nat) {v : AV} {st : St} {v' : AV} {st' : St}, thD d v st = some (v', st') → st'.n = st.n
  | 0, v, st, v', st', h => by
    simp only [thD] at h
    split at h
    · simp at h; rw [h.2]
    · simp at h
  | d + 1, v, st, v', st', h => by
    have G : ∀ v st v' st', thD d v st = some (v', st') → st'.n = st.n := fun _ _ _ _ h => thD_n d h
    simp only [thD] at h
    cases v
    case agg cs =>
      simp only [thVal] at h
      obtain ⟨p, h1, hB⟩ := bind_some h
      simp at hB
      rw [← hB.2]; exact mapS_n (fun _ _ _ _ h => thOne_n G h) h1
    all_goals exact thOne_n G (by simpa only [thVal] using h)

theorem thTup_n (d : Nat) {v : AV} {st : St} {v' : AV} {st' : St} (h : thTup d v st = some (v', st')) : st'.n = st.n := by
  cases v
  case tup cs =>
    simp only [thTup] at h
    obtain ⟨p, h1, hB⟩ := bind_some h
    simp at hB
    rw [← hB.2]; exact mapS_n (fun _ _ _ _ h => thD_n d h) h1
  all_goals exact thD_n d (by simpa only [thTup] using h)

mutual
/-- a tree's tags are valid -/
theorem tags_vd : ∀ {a : AV} {v : Value}, VRel c w a v → a.tree = true → ∀ t ∈ a.tags, t = 0 ∨ c.Vd t
  | .undef, _, _, h, _, _ => by simp [AV.tree] at h
  | .bool _, _, _, _, t, h => by simp [AV.tags] at h
  | .int .., _, _, _, t, h => by simp [AV.tags] at h
  | .str _, _, _, _, t, h => by simp [AV.tags] at h
  | .nilp, _, _, _, t, h => by simp [AV.tags] at h
  | .nils, _, _, _, t, h => by simp [AV.tags] at h
  | .ptr .., _, _, h, _, _ => by simp [AV.tree] at h
  | .eptr _, _, _, h, _, _ => by simp [AV.tree] at h
  | .lsl .., _, _, h, _, _ => by simp [AV.tree] at h
  | .sl u off s es, _, hv, ht, t, h => by
    simp only [VRel] at hv
    simp only [AV.tags, List.mem_cons] at h
    rcases hv.2 with ⟨h0, a, cap, h1, h2, h3⟩ | ⟨h0, h1, h2, h3, h4⟩
    · rcases h with rfl | h
      · exact .inl h0
      · rcases h3 with h3 | ⟨b, o, h3, h5, h4⟩
        · subst h3; simp [tagsL] at h
        · exact tagsE_vd h4 hv.1 t h
    · rcases h with rfl | h
      · exact .inr h1
      · exact tagsE_vd h4 hv.1 t h
  | .agg cs, _, hv, ht, t, h => by
    simp only [VRel] at hv
    obtain ⟨vs, _, hv⟩ := hv
    exact tagsL_vd hv (by simpa only [AV.tree] using ht) t (by simpa only [AV.tags] using h)
  | .tup cs, _, hv, ht, t, h => by
    simp only [VRel] at hv
    obtain ⟨vs, _, hv⟩ := hv
    exact tagsL_vd hv (by simpa only [AV.tree] using ht) t (by simpa only [AV.tags] using h)
theorem tagsL_vd : ∀ {as : List AV} {vs : List Value}, VRels c w as vs → treeL as = true → ∀ t ∈ tagsL as, t = 0 ∨ c.Vd t
  | [], _, _, _, t, h => by simp [tagsL] at h
  | a :: as, _, hv, ht, t, h => by
    simp only [VRels] at hv
    simp only [treeL, Bool.and_eq_true] at ht
    simp only [tagsL, List.mem_append] at h
    obtain ⟨x, xs, _, h1, h2⟩ := hv
    rcases h with h | h
    · exact tags_vd h1 ht.1 t h
    · exact tagsL_vd h2 ht.2 t h
theorem tagsE_vd : ∀ {es : List AV} {s b o : Nat}, ERel c w s es b o → treeL es = true → ∀ t ∈ tagsL es, t = 0 ∨ c.Vd t
  | [], _, _, _, _, _, t, h => by simp [tagsL] at h
  | e :: es, s, b, o, hv, ht, t, h => by
    simp only [ERel] at hv
    simp only [treeL, Bool.and_eq_true] at ht
    simp only [tagsL, List.mem_append] at h
    obtain ⟨⟨_, v, h1, _, _⟩, h2⟩ := hv
    rcases h with h | h
    · exact tags_vd h1 ht.1 t h
    · exact tagsE_vd h2 ht.2 t h
end

theorem clV_ok {R : Sys} (CS : CallSnd P R.call) (CM : CallMono R.call) {f d : Nat} {args : List AV} {st st' : St} {v : AV} {vals : Array Value} (S : Sim c w st.H base) (hv : VRels c w args vals.toList)
    (h : clV R f d args st = some (v, st')) (F : ∀ t, st.n ≤ t → t < st'.n → Free c t) (W : d ≠ 0 → WS st) :
    Calls P f vals w fun e w' => ∃ x c', e = .returned x ∧ Post c w base st.n st'.n c' w' ∧ Sim c' w' st'.H base ∧ VRel c' w' v x ∧ (WS st → WS st') ∧ (d = 0 → st'.H = st.H ∧ st'.m = st.m) := by
  unfold clV at h
  obtain ⟨as, h1, hA⟩ := bind_some h
  obtain ⟨⟨r, n'⟩, h2, hB⟩ := bind_some hA
  clear h hA
  have hmono := CM _ _ _ _ _ h2
  have WSn : WS st → WS { st with n := n' } := fun W i a h => ⟨Nat.lt_of_lt_of_le (W i a h).1 hmono, (W i a h).2⟩
  cases d with
  | zero =>
    simp only at hB
    obtain ⟨v', h3, hB⟩ := bind_some hB
    simp at hB
    obtain ⟨rfl, rfl⟩ := hB
    refine (call_core CS S hv h1 h2 F).mono ?_
    rintro e w' ⟨x, k, rfl, A, hq⟩
    obtain ⟨q1, q2, q3⟩ := hq True
    exact ⟨x, _, rfl, q1, q2, reloc_ok (q3 trivial) h3 A.tree A.rel, WSn, fun _ => ⟨rfl, rfl⟩⟩
  | succ d =>
    simp only [thaw] at hB
    obtain ⟨⟨hn, hall⟩, hB⟩ := if_some hB
    have hn' : st'.n = n' := thTup_n (d + 1) hB
    rw [hn'] at F ⊢
    refine (call_core CS S hv h1 h2 F).mono ?_
    rintro e w' ⟨x, k, rfl, A, hq⟩
    obtain ⟨q1, q2, q3⟩ := hq False
    have W' := W (by simp)
    have htag : ∀ t ∈ r.tags, st.n ≤ t ∧ t < n' := fun t ht => by
      have := List.all_eq_true.1 hall t ht
      simp only [Bool.and_eq_true] at this
      refine ⟨Nat.le_of_ble_eq_true this.1, ?_⟩
      have := Nat.le_of_ble_eq_true this.2
      exact this
    have im' : ∀ b, (c.behind k st.n n' False).Im b → b < w.heap.size := by
      rintro b (hb | ⟨t, ht, hc, hb⟩)
      · exact Nat.lt_of_lt_of_le hb (Nat.le_trans S.n0 S.hb)
      · rcases ht with ht | ⟨_, _, _, hf⟩
        · have : k.T t = c.T t := (q1.ex.vd t ht).2
          exact S.im b (.inr ⟨t, ht, by rw [← this]; exact hc, by rw [← this]; exact hb⟩)
        · exact hf.elim
    have hI : ThI k (c.behind k st.n n' False) w' base { st with n := n' } r.tags := by
      refine ⟨q2, WSn W', A.ex.n0.symm, rfl, A.vinj, fun t ht => ?_, fun t ht hc => ?_, fun t ht j a hj hr ca ct e => ?_, fun t ht j a hj e => ?_⟩
      · obtain ⟨a1, a2, a3⟩ := F t (htag t ht).1 (htag t ht).2
        refine ⟨a1, (htag t ht).2, a2, fun h => ?_, (tags_vd A.rel A.tree t ht).resolve_left a1⟩
        rcases h with h | ⟨_, _, _, h⟩
        · exact a3 h
        · exact h
      · have hvd := (tags_vd A.rel A.tree t ht).resolve_left (F t (htag t ht).1 (htag t ht).2).1
        have hnew := A.new t hvd (htag t ht).1 (htag t ht).2 hc
        exact ⟨Nat.le_trans S.hb hnew, fun h => by have := im' _ h; omega, A.vblk t hvd (htag t ht).1 (htag t ht).2 hc⟩
      · have hvd := (tags_vd A.rel A.tree t ht).resolve_left (F t (htag t ht).1 (htag t ht).2).1
        have hnew := A.new t hvd (htag t ht).1 (htag t ht).2 ct
        have hr' : c.Rz a.tag := hr
        have eT : k.T a.tag = c.T a.tag := (q1.ex.rz _ hr').2
        have := (S.arr j a hj hr').lt (by rw [← eT]; exact ca)
        rw [← eT] at this; omega
      · have := (W' j a hj).1
        have := (htag t ht).1
        omega
    obtain ⟨c2, b1, b2, b3, b4, b5⟩ := thTup_ok (cN := k) (d + 1) r { st with n := n' } v st' _ x hB (nodupB_iff hn) A.tree A.rel hI
    refine ⟨x, c2, rfl, ⟨?_, q1.below, fun t ht => ?_, fun t ht hc => q1.vnew t (by rw [← b4.vd]; exact ht) (by rw [← b4.T]; exact hc) |>.imp id (by rw [b4.T]; exact id)⟩, b2, b1, fun _ => b3, fun h => by simp at h⟩
    · refine q1.ex.trans ⟨b4.n0, fun t ht => ⟨(b4.rz t).2 (.inl ht), by rw [b4.T]⟩, fun t ht => ⟨by rw [b4.vd]; exact ht, by rw [b4.T]⟩, fun _ _ _ => rfl⟩
    · obtain ⟨o1, o2, o3⟩ := q1.off t ht
      refine ⟨by rw [b4.T]; exact o1, ?_, by rw [b4.vd]; exact o3⟩
      rw [b4.rz, o2]
      exact ⟨fun h => h.resolve_right (fun h => ht (htag t h)), .inl⟩

end
end Go.Proofs.YtilbmpdeginabaaFw
