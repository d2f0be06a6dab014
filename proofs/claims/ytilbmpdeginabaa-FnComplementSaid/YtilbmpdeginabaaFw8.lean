/- Append, literals, bytes as text. Conditions: none beside each theorem's own. -/
import Derived.Test.YtilbmpdeginabaaFw7
import Derived.Laws.BytesString
namespace Go.Proofs.YtilbmpdeginabaaFw
open Go Go.RowKit
set_option linter.unusedSimpArgs false
set_option linter.unusedVariables false

section
variable {P : Program} {c : Cx} {w w' : World} {H : Nat → Option LArr} {base : Nat}

theorem below_drew_alloc {o : Obj} (h : base ≤ w.heap.size) : Below base w (w.drew.alloc o) := ((Below.refl _ _).drew).alloc (by simpa using h) _

/-- the array j (new, or with the tag t of old) behind an append -/
theorem run_app_fin {t t' ty e e' : TypeId} {z : AV} {n j : Nat} (S : Sim c w H base) (F : Free c n) (hNo : ∀ i a, i ≠ j → H i = some a → a.tag ≠ n)
    (he : elemOf? P t = some e) (ht' : P.underlying t' = some (.slice e')) (hz : zeroOf P e = some z)
    {a : Option Addr} {len cap : Nat} {blk : Nat} {pre ys : List AV} {news : List Value} {yv : Value} (hpre : pre.length = len) (hlc : len ≤ cap) (ha : cap = 0 ∨ a = some ⟨blk, 0, none⟩)
    (hblk : cap ≠ 0 → (∃ cs el, w.heap[blk]? = some (.cells cs el (0, 0)) ∧ cs.size = cap * szOf P e) ∧ ERel c w (szOf P e) pre blk 0)
    (hown : cap ≠ 0 → ∃ a, H j = some a ∧ c.Rz a.tag ∧ (c.T a.tag).cap ≠ 0 ∧ (c.T a.tag).blk = blk)
    (hnl : news.length = ys.length * szOf P e) (hsrc : Src P (szOf P e) t' yv ys.length news w)
    (hnews : ∀ (i : Nat) (el : AV), ys[i]? = some el → el.stor = true ∧ ∃ v, VRel c w el v ∧ v.cells.size = szOf P e ∧ ∀ (k : Nat) (x : Value), v.cells[k]? = some x → news[i * szOf P e + k]? = some x)
    (hm : len + ys.length ≤ maxNeed) :
    ∃ r c' w', (Builtin.append_ #[t, t'] ty #[.slice a len cap, yv]).run P w = .ok r w' ∧ Post c w base n (n + 1) c' w' ∧ Sim c' w' (hput H j { tag := n, s := szOf P e, es := pre ++ ys }) base ∧
      VRel c' w' (.lsl j n (szOf P e) 0 (len + ys.length)) r := by
  obtain ⟨inf, d, h1, h2, h3, h4, h5, h6, h7⟩ := elem_ok he
  rcases run_app_core (ty := ty) he ht' hz hpre hlc ha hblk hnl hsrc hnews hm with ⟨hroom, hrun, hnil⟩ | ⟨cs, el, cap', hrun, hge, hsz, hcs⟩
  · -- in place
    have hs0 : szOf P e ≠ 0 := by omega
    obtain ⟨s1, s2, s3, s4, s5⟩ := setCells_rest (g := blk) news (len * szOf P e) w
    have hall : cap ≠ 0 → ∃ cs el, (w.setCells blk (len * szOf P e) news).heap[blk]? = some (.cells cs el (0, 0)) ∧ cs.size = cap * szOf P e := fun hc => by
      obtain ⟨⟨cs, el, b1, b2⟩, _⟩ := hblk hc
      obtain ⟨cur, u1, u2⟩ := setCells_blk news (len * szOf P e) w cs b1
      exact ⟨cur, el, u1, by rw [u2, b2]⟩
    obtain ⟨X, S'⟩ := Sim_put (w' := w.setCells blk (len * szOf P e) news) (j := j) (ti := ⟨blk, cap, szOf P e⟩) (es := pre ++ ys) S F rfl hs0 (by simp; omega) hNo (by rw [s4]; exact Nat.le_refl _)
      (fun b hb hne => by
        by_cases hc : cap = 0
        · rw [hnil hc]; rfl
        · exact s5 b (hne hc))
      (fun hc => .inr (hown hc)) (fun hc => hall hc)
      (fun hc X => by
        obtain ⟨⟨cs, el, b1, b2⟩, b3⟩ := hblk hc
        have hin : ∀ k, k < news.length → len * szOf P e + k < cs.size := by
          intro k hk
          rw [hnl] at hk
          have : (len + ys.length) * szOf P e ≤ cap * szOf P e := Nat.mul_le_mul_right _ hroom
          rw [Nat.add_mul] at this; omega
        refine ERel_of _ _ (fun i x hi => ?_)
        by_cases hlt : i < len
        · rw [List.getElem?_append_left (by omega)] at hi
          obtain ⟨k1, v, k2, k3, k4⟩ := ERel_get b3 i x hi
          refine ⟨k1, v, VRel_ex X k2, k3, fun k u hk => ?_⟩
          have hks : k < szOf P e := by rw [← k3]; exact (Array.getElem?_eq_some_iff.1 hk).1
          have : (i + 1) * szOf P e ≤ len * szOf P e := Nat.mul_le_mul_right _ hlt
          rw [Nat.add_mul] at this
          rw [World.cell?_setCells_out _ _ _ _ _ (fun _ _ => .inl (by simp; omega))]
          exact k4 k u hk
        · rw [List.getElem?_append_right (by omega), hpre] at hi
          obtain ⟨k1, v, k2, k3, k4⟩ := hnews _ x hi
          refine ⟨k1, v, VRel_ex X k2, k3, fun k u hk => ?_⟩
          have hn := k4 k u hk
          have hnlt := (List.getElem?_eq_some_iff.1 hn).1
          have := World.cell?_setCells_in blk news (len * szOf P e) w (fun q hq => cell_some b1 (hin q hq)) _ hnlt
          have e1 : len * szOf P e + ((i - len) * szOf P e + k) = 0 + i * szOf P e + k := by
            rw [Nat.zero_add, ← Nat.add_assoc, ← Nat.add_mul]; congr 2; omega
          rw [e1] at this
          rw [this]
          rw [List.getElem?_eq_getElem hnlt] at hn
          exact hn)
    refine ⟨_, _, _, hrun, ⟨X, ⟨s1, s2, s3, by rw [s4]; exact Nat.le_refl _, fun k hk => ?_⟩, off_add, fun _ h _ => .inl h⟩, S', ?_⟩
    · by_cases hc : cap = 0
      · rw [hnil hc]; rfl
      · obtain ⟨a', g1, g2, g3, g4⟩ := hown hc
        have := ((S.arr j a' g1 g2).blk g3).1
        rw [g4] at this
        exact s5 k (by omega)
    · simp only [VRel]
      have tn : (c.add n ⟨blk, cap, szOf P e⟩).T n = ⟨blk, cap, szOf P e⟩ := if_pos rfl
      rw [tn]
      exact ⟨.inl rfl, rfl, a, cap, rfl, by simp, hroom, by simpa using ha⟩
  · obtain ⟨p1, p2, p3, p4⟩ := lay_new (W := w.drew) (cs := cs) (t := el) (es := pre ++ ys) (cap := cap') (s := szOf P e) (j := j) S F hNo rfl rfl rfl rfl (by omega) (by simp; omega) hsz hcs
    refine ⟨_, _, _, hrun, p1, p2, ?_⟩
    simp only [VRel]
    rw [p4]
    exact ⟨p3, rfl, some ⟨w.heap.size, 0, none⟩, cap', rfl, by simp, hge, .inr (by simp)⟩

theorem run_app {st st' : St} {t t' ty e e' : TypeId} {z x y v : AV} {xv yv : Value} (S : Sim c w st.H base) (he : elemOf? P t = some e) (ht' : P.underlying t' = some (.slice e')) (hz : zeroOf P e = some z)
    (hx : VRel c w x xv) (hy : VRel c w y yv) (h : aApp (szOf P e) x y st = some (v, st'))
    (F : Free c st.n) (hNo : ∀ i a, i ≠ st.m → st.H i = some a → a.tag ≠ st.n) (hNo' : x = .nils ∨ ∀ i a, st.H i = some a → a.tag ≠ st.n) :
    ∃ r c' w', (Builtin.append_ #[t, t'] ty #[xv, yv]).run P w = .ok r w' ∧ Post c w base st.n (st.n + 1) c' w' ∧ Sim c' w' st'.H base ∧ VRel c' w' v r ∧ st'.n = st.n + 1 := by
  unfold aApp at h
  obtain ⟨ys, h1, hA⟩ := bind_some h
  clear h
  obtain ⟨h2, h⟩ := if_some hA
  clear hA
  have h2' : y = .nils ∨ stride y = some (szOf P e) := by
    rcases h2 with h2 | h2
    · left; cases y <;> simp at h2 ⊢
    · exact .inr h2
  obtain ⟨news, n1, n2, n3⟩ := src_rel ht' hy S h1 h2'
  cases x with
  | nils =>
    simp at h
    obtain ⟨h3, rfl, rfl⟩ := h
    simp only [VRel] at hx
    obtain ⟨a, rfl⟩ := hx
    obtain ⟨r, c', w', k1, k2, k3, k4⟩ := run_app_fin (ty := ty) (j := st.m) (pre := []) (blk := 0) (cap := 0) (len := 0) (a := a) S F hNo he ht' hz rfl (Nat.le_refl _) (.inl rfl) (fun h => absurd rfl h) (fun h => absurd rfl h) n1 n2 n3 (by omega)
    refine ⟨r, c', w', k1, k2, k3, ?_, rfl⟩
    rwa [Nat.zero_add] at k4
  | lsl j tg s off len =>
    simp at h
    obtain ⟨⟨rfl, rfl, h3⟩, h⟩ := h
    obtain ⟨a, g, h⟩ := bind_some h
    obtain ⟨h4, h⟩ := if_some h
    simp at h
    obtain ⟨rfl, rfl⟩ := h
    obtain ⟨g1, g2⟩ := get_some g
    subst g2
    simp only [VRel] at hx
    obtain ⟨hr, hs, ad, cap, rfl, q1, q2, q3⟩ := hx
    have ho := S.arr j a g1 hr
    have hsa : a.s = szOf P e := by rw [← ho.s, hs]
    rw [Nat.zero_add] at q1
    have hN : ∀ i a, st.H i = some a → a.tag ≠ st.n := by
      rcases hNo' with h | h
      · simp at h
      · exact h
    obtain ⟨r, c', w', k1, k2, k3, k4⟩ := run_app_fin (ty := ty) (j := j) (pre := a.es.take len) (blk := (c.T a.tag).blk) (cap := cap) (len := len) (a := ad) S F (fun i b _ hb => hN i b hb) he ht' hz (by simp; omega) q2 (by simpa using q3)
      (fun hc => by
        obtain ⟨b1, b2, ⟨cs, el, b3, b4⟩, b5⟩ := ho.blk (by omega)
        refine ⟨⟨cs, el, b3, by rw [b4, hsa, q1]⟩, ERel_of _ _ (fun i x hi => ?_)⟩
        have : a.es[i]? = some x := by
          rw [List.getElem?_take] at hi
          split at hi
          · exact hi
          · simp at hi
        have := ERel_get b5 _ _ this
        rwa [hsa] at this)
      (fun hc => ⟨a, g1, hr, by omega, rfl⟩) n1 n2 n3 (by omega)
    exact ⟨r, c', w', k1, k2, k3, k4, rfl⟩
  | _ => simp at h

/-! ### struct literals -/
theorem fold_set (off : Nat) : ∀ (xs : List Value) (k : Nat) (cs : Array Value), ((xs.zipIdx k).foldl (fun cs (x : Value × Nat) => cs.setIfInBounds (off + x.2) x.1) cs).size = cs.size ∧
    ∀ i, ((xs.zipIdx k).foldl (fun cs (x : Value × Nat) => cs.setIfInBounds (off + x.2) x.1) cs)[i]? = if off + k ≤ i ∧ i < off + k + xs.length ∧ i < cs.size then xs[i - (off + k)]? else cs[i]?
  | [], k, cs => ⟨rfl, fun i => by simp; intro h1 h2; omega⟩
  | x :: xs, k, cs => by
    obtain ⟨h1, h2⟩ := fold_set off xs (k + 1) (cs.setIfInBounds (off + k) x)
    simp only [List.zipIdx_cons, List.foldl_cons]
    refine ⟨by rw [h1]; simp, fun i => ?_⟩
    rw [h2 i]
    simp only [Array.size_setIfInBounds, List.length_cons, Array.getElem?_setIfInBounds]
    by_cases e1 : off + k = i
    · subst e1
      rw [if_neg (by omega)]
      by_cases e2 : off + k < cs.size
      · rw [if_pos rfl, if_pos e2, if_pos ⟨by omega, by omega, e2⟩]; simp
      · rw [if_pos rfl, if_neg e2, if_neg (by omega)]; simp [Array.getElem?_eq_none (Nat.le_of_not_lt e2)]
    · rw [if_neg e1]
      by_cases e2 : off + (k + 1) ≤ i ∧ i < off + (k + 1) + xs.length ∧ i < cs.size
      · rw [if_pos e2, if_pos ⟨by omega, by omega, by omega⟩]
        rw [show i - (off + k) = (i - (off + (k + 1))) + 1 by omega]; simp
      · rw [if_neg e2, if_neg (by omega)]

theorem zip_fold {x : Value} {off : Nat} {cs : Array Value} : (x.cells.zipIdx.foldl (fun cs (c, j) => cs.setIfInBounds (off + j) c) cs) = ((x.cells.toList.zipIdx 0).foldl (fun cs (x : Value × Nat) => cs.setIfInBounds (off + x.2) x.1) cs) := by
  rw [← Array.foldl_toList, Array.toList_zipIdx]

theorem fill_build {ρ : Opd → AV} {place : Nat → Option (Nat × Nat)} :
    ∀ (ps : List (Nat × Nat × Opd)) (is : List Nat) (xs : List Value) (cs : List AV) (vs : Array Value) (cs' : List AV), is.length = ps.length → xs.length = ps.length →
      (∀ (k i : Nat) (p : Nat × Nat × Opd), is[k]? = some i → ps[k]? = some p → place i = some (p.1, p.2.1)) → (∀ (k : Nat) (p : Nat × Nat × Opd) (x : Value), ps[k]? = some p → xs[k]? = some x → VRel c w (ρ p.2.2) x) →
      VRels c w cs vs.toList → fillBuild ρ ps cs = some cs' → ∃ vs', Instr.fill place vs (is.zip xs) = some vs' ∧ VRels c w cs' vs'.toList
  | [], is, xs, cs, vs, cs', hl, _, _, _, hv, h => by
    simp [fillBuild] at h; subst h
    have : is = [] := List.length_eq_zero_iff.1 (by simpa using hl)
    subst this
    exact ⟨vs, rfl, hv⟩
  | p :: ps, [], xs, cs, vs, cs', hl, _, _, _, hv, h => by simp at hl
  | p :: ps, i :: is, [], cs, vs, cs', _, hl, _, _, hv, h => by simp at hl
  | p :: ps, i :: is, y :: xs, cs, vs, cs', hl, hl', hp, hr', hv, h => by
    obtain ⟨off, s, x⟩ := p
    simp only [fillBuild] at h
    obtain ⟨⟨h1, h2, h3⟩, h⟩ := if_some h
    have hr := hr' 0 (off, s, x) y rfl rfl
    simp only at hr
    obtain ⟨r1, r2, r3⟩ := cells_rel hr h1
    have hlen := VRels_length r1
    have hcl := VRels_length hv
    have hpl := hp 0 i (off, s, x) rfl rfl
    have hsz : y.cells.size = s := by rw [stor_size hr h1, h2]
    obtain ⟨f1, f2⟩ := fold_set off y.cells.toList 0 vs
    have hv' : VRels c w (splice off (ρ x).cells cs) (y.cells.zipIdx.foldl (fun cs (c, j) => cs.setIfInBounds (off + j) c) vs).toList := by
      rw [zip_fold]
      refine VRels_of ?_ ?_
      · rw [splice_length (by omega)]; simp only [Array.length_toList]; rw [f1]; simpa using hcl
      · intro k a v ha hv2
        rw [splice_get (by omega)] at ha
        rw [Array.getElem?_toList, f2 k] at hv2
        simp only [Array.length_toList] at hlen hcl hv2
        by_cases hk : off ≤ k ∧ k < off + (ρ x).cells.length
        · rw [if_pos hk] at ha
          rw [if_pos ⟨by omega, by omega, by omega⟩] at hv2
          obtain ⟨u, u1, u2⟩ := VRels_get r1 _ _ ha
          rw [Nat.add_zero] at hv2
          rw [u1] at hv2; simp at hv2; subst hv2; exact u2
        · rw [if_neg hk] at ha
          rw [if_neg (by omega)] at hv2
          obtain ⟨u, u1, u2⟩ := VRels_get hv _ _ ha
          rw [Array.getElem?_toList, hv2] at u1; simp at u1; subst u1; exact u2
    obtain ⟨vs', k1, k2⟩ := fill_build ps is xs _ _ cs' (by simpa using hl) (by simpa using hl') (fun k i p h1 h2 => hp (k + 1) i p (by simpa using h1) (by simpa using h2))
      (fun k p x h1 h2 => hr' (k + 1) p x (by simpa using h1) (by simpa using h2)) hv' h
    refine ⟨vs', ?_, k2⟩
    simp only [List.zip_cons_cons, Instr.fill, hpl]
    simp only [Array.length_toList] at hcl
    rw [if_neg (by simp [hsz]; omega)]
    exact k1

/-! ### slice literals -/
/-- elements laid in a row of cells -/
def Lay (c : Cx) (w : World) (s : Nat) (es : List AV) (cs : Array Value) : Prop :=
  cs.size = es.length * s ∧ ∀ (i : Nat) (e : AV), es[i]? = some e → e.stor = true ∧ ∃ v, VRel c w e v ∧ v.cells.size = s ∧ ∀ (k : Nat) (x : Value), v.cells[k]? = some x → cs[i * s + k]? = some x

theorem fill_slice {ρ : Opd → AV} {s : Nat} :
    ∀ (ps : List (Nat × Opd)) (is : List Nat) (xs : List Value) (es : List AV) (vs : Array Value) (es' : List AV), is.length = ps.length → xs.length = ps.length → (∀ (k i : Nat) (p : Nat × Opd), is[k]? = some i → ps[k]? = some p → i = p.1) →
      (∀ (k : Nat) (p : Nat × Opd) (x : Value), ps[k]? = some p → xs[k]? = some x → VRel c w (ρ p.2) x) →
      Lay c w s es vs → fillSlice ρ s ps es = some es' → ∃ vs', Instr.fill (fun i => some (i * s, s)) vs (is.zip xs) = some vs' ∧ Lay c w s es' vs'
  | [], is, xs, es, vs, es', hl, _, _, _, hv, h => by
    simp [fillSlice] at h; subst h
    have : is = [] := List.length_eq_zero_iff.1 (by simpa using hl)
    subst this
    exact ⟨vs, rfl, hv⟩
  | p :: ps, [], xs, es, vs, es', hl, _, _, _, hv, h => by simp at hl
  | p :: ps, i :: is, [], es, vs, es', _, hl, _, _, hv, h => by simp at hl
  | p :: ps, i :: is, y :: xs, es, vs, es', hl, hl', hp, hr', hv, h => by
    obtain ⟨i', x⟩ := p
    obtain rfl := hp 0 i (i', x) rfl rfl
    simp only [fillSlice] at h
    obtain ⟨⟨h1, h2, h3⟩, h⟩ := if_some h
    have hr := hr' 0 (i, x) y rfl rfl
    simp only at hr
    have hsz : y.cells.size = s := by rw [stor_size hr h1, h2]
    obtain ⟨f1, f2⟩ := fold_set (i * s) y.cells.toList 0 vs
    have hb : i * s + s ≤ vs.size := by
      rw [hv.1]
      have : (i + 1) * s ≤ es.length * s := Nat.mul_le_mul_right _ h3
      rwa [Nat.add_mul, Nat.one_mul] at this
    have hv' : Lay c w s (es.set i (ρ x)) (y.cells.zipIdx.foldl (fun cs (c, j) => cs.setIfInBounds (i * s + j) c) vs) := by
      rw [zip_fold]
      refine ⟨by rw [f1, hv.1]; simp, fun j e he => ?_⟩
      by_cases hj : j = i
      · subst hj
        rw [List.getElem?_set_self h3] at he
        simp at he; subst he
        refine ⟨h1, _, hr, hsz, fun k u hk => ?_⟩
        have hks : k < s := by rw [← hsz]; exact (Array.getElem?_eq_some_iff.1 hk).1
        rw [f2, if_pos ⟨by omega, by simp only [Array.length_toList]; omega, by omega⟩]
        rw [show j * s + k - (j * s + 0) = k by omega]
        simpa using hk
      · rw [List.getElem?_set_ne (fun e => hj e.symm)] at he
        obtain ⟨k1, v, k2, k3, k4⟩ := hv.2 j e he
        refine ⟨k1, v, k2, k3, fun k u hk => ?_⟩
        have hks : k < s := by rw [← k3]; exact (Array.getElem?_eq_some_iff.1 hk).1
        rw [f2, if_neg ?_]
        · exact k4 k u hk
        · simp only [Array.length_toList]
          rcases Nat.lt_or_ge j i with hlt | hge
          · have : (j + 1) * s ≤ i * s := Nat.mul_le_mul_right _ hlt
            rw [Nat.add_mul] at this; omega
          · have : (i + 1) * s ≤ j * s := Nat.mul_le_mul_right _ (by omega)
            rw [Nat.add_mul] at this; omega
    obtain ⟨vs', k1, k2⟩ := fill_slice ps is xs _ _ es' (by simpa using hl) (by simpa using hl') (fun k i p h1 h2 => hp (k + 1) i p (by simpa using h1) (by simpa using h2))
      (fun k p x h1 h2 => hr' (k + 1) p x (by simpa using h1) (by simpa using h2)) hv' h
    refine ⟨vs', ?_, k2⟩
    simp only [List.zip_cons_cons, Instr.fill]
    rw [if_neg (by simp [hsz]; omega)]
    exact k1

theorem run_bslice {t e : TypeId} {len n j : Nat} {z : AV} {ρ : Opd → AV} {ps : List (Nat × Opd)} {pv : Array (Nat × Value)} {es : List AV} {xs : List Value} (he : elemOf? P t = some e) (hz : zeroOf P e = some z)
    (hlen : len * szOf P e ≤ 16777216) (hxl : xs.length = ps.length) (hρ : ∀ (k : Nat) (p : Nat × Opd) (x : Value), ps[k]? = some p → xs[k]? = some x → VRel c w (ρ p.2) x) (hpv : pv.toList = (ps.map (·.1)).zip xs)
    (h : fillSlice ρ (szOf P e) ps (List.replicate len z) = some es) (hel : es.length = len) (S : Sim c w H base) (F : Free c n) (hNo : ∀ i a, i ≠ j → H i = some a → a.tag ≠ n) :
    ∃ r c' w', (Instr.buildSlice t len pv).run P w = .ok r w' ∧ Post c w base n (n + 1) c' w' ∧ Sim c' w' (hput H j { tag := n, s := szOf P e, es := es }) base ∧ VRel c' w' (.lsl j n (szOf P e) 0 len) r := by
  obtain ⟨inf, d, h1, h2, h3, h4, h5, h6, h7⟩ := elem_ok he
  obtain ⟨i', zv, g1, g2, g3, g4, g5⟩ := zero_ok hz
  rw [h2] at g1; simp at g1; subst g1
  obtain ⟨k1, k2⟩ := avOf_rel (c := c) (w := w) g3
  have lay0 : Lay c w (szOf P e) (List.replicate len z) (madeCells zv.cells (len * szOf P e)) := by
    refine ⟨by rw [size_madeCells]; simp, fun i x hi => ?_⟩
    have hil : i < len := by have := (List.getElem?_eq_some_iff.1 hi).1; simpa using this
    have : x = z := by
      have := (List.getElem?_eq_some_iff.1 hi).2; simp at this; exact this.symm
    subst this
    refine ⟨k2, zv, k1, by omega, fun k x hk => made_get _ _ _ _ _ _ (by omega) hk ?_⟩
    have hks : k < szOf P e := by have := (Array.getElem?_eq_some_iff.1 hk).1; omega
    have : (i + 1) * szOf P e ≤ len * szOf P e := Nat.mul_le_mul_right _ (by omega)
    rw [Nat.add_mul] at this; omega
  obtain ⟨vs', f1, f2⟩ := fill_slice ps (ps.map (·.1)) xs _ _ es (by simp) hxl (fun k i p q1 q2 => by
    rw [List.getElem?_map, q2] at q1; simp at q1; exact q1.symm) hρ lay0 h
  rw [← hpv] at f1
  have hmade : (Array.range (len * inf.size)).map ((if len * inf.size = 0 then #[] else zv.cells)[· % (if len * inf.size = 0 then #[] else zv.cells).size]!) = madeCells zv.cells (len * szOf P e) := by
    by_cases h0 : len * inf.size = 0
    · rw [h4]; simp [madeCells, h0]
    · simp [madeCells, h0, h4]
  obtain ⟨p1, p2, p3, p4⟩ := lay_new (W := w) (cs := vs') (t := e) (es := es) (cap := len) (s := szOf P e) (j := j) S F hNo rfl rfl rfl rfl (by omega) (by omega) (by rw [f2.1, hel]) f2.2
  refine ⟨.slice (some ⟨w.heap.size, 0, none⟩) len len, _, _, ?_, p1, p2, ?_⟩
  · rw [h4] at hlen f1
    have hl' : ¬ (16777216 < len * inf.size) := by omega
    unfold madeCells at f1
    by_cases h0 : len * inf.size = 0
    · rw [h0] at f1
      simp only [Array.range_zero', Array.map_empty] at f1
      simp [Instr.buildSlice, run_underlying h1, sizeOf, typeInfo, h2, h0, f1, newRow, Array.range_zero']
    · simp [Instr.buildSlice, run_underlying h1, sizeOf, typeInfo, h2, h0, hl', zeroValue, g2, f1, newRow]
  · simp only [VRel]
    rw [p4]
    exact ⟨p3, rfl, some ⟨w.heap.size, 0, none⟩, len, rfl, by simp, Nat.le_refl _, .inr (by simp)⟩

theorem fillSlice_length {ρ : Opd → AV} {s : Nat} : ∀ {ps : List (Nat × Opd)} {es es' : List AV}, fillSlice ρ s ps es = some es' → es'.length = es.length
  | [], es, es', h => by simp [fillSlice] at h; subst h; rfl
  | (i, x) :: ps, es, es', h => by
    simp only [fillSlice] at h
    obtain ⟨_, h⟩ := if_some h
    rw [fillSlice_length h]; simp

/-! ### bytes as text -/
theorem bytes_some : ∀ {es : List AV} {l : List UInt8}, bytesOf es = some l → ∃ ns : List Int, es = ns.map (.int .u8) ∧ l = ns.map fun n => UInt8.ofNat n.toNat
  | [], l, h => by simp [bytesOf] at h; subst h; exact ⟨[], rfl, rfl⟩
  | e :: es, l, h => by
    cases e with
    | int k n =>
      cases k with
      | u8 =>
        simp only [bytesOf] at h
        obtain ⟨l', h1, h⟩ := bind_some h
        simp at h; subst h
        obtain ⟨ns, k1, k2⟩ := bytes_some h1
        exact ⟨n :: ns, by rw [k1]; rfl, by rw [k2]; rfl⟩
      | _ => simp [bytesOf] at h
    | _ => simp [bytesOf] at h

theorem push_fold (ns : List Int) : ∀ b : ByteArray, ns.foldl (fun r n => r.push (UInt8.ofNat n.toNat)) b = ⟨b.data ++ (ns.map fun n => UInt8.ofNat n.toNat).toArray⟩ := by
  induction ns with
  | nil => intro b; simp
  | cons n ns ih =>
    intro b
    rw [List.foldl_cons, ih]
    simp [ByteArray.push]

theorem run_b2s {st : St} {src dst e : TypeId} {x v : AV} {xv : Value} (hs : P.underlying src = some (.slice e)) (he : P.underlying e = some (.int .u8)) (hd : P.underlying dst = some .string)
    (hx : VRel c w x xv) (S : Sim c w st.H base) (h : aB2s st x = some v) : ∃ r, (convert src dst xv).run P w = .ok r w ∧ VRel c w v r := by
  unfold aB2s at h
  obtain ⟨es, h1, hA⟩ := bind_some h
  clear h
  obtain ⟨h2, hB⟩ := if_some hA
  clear hA
  obtain ⟨l, h3, h⟩ := bind_some hB
  clear hB
  simp at h; subst h
  have h2' : x = .nils ∨ stride x = some 1 := by
    rcases h2 with h2 | h2
    · left; cases x <;> simp at h2 ⊢
    · exact .inr h2
  obtain ⟨ns, k1, k2⟩ := bytes_some h3
  obtain ⟨news, n1, n2, n3⟩ := src_rel (s := 1) hs hx S h1 h2'
  have hnews : news = ns.map (Value.int .u8) := by
    apply List.ext_getElem?
    intro i
    by_cases hi : i < ns.length
    · have he : es[i]? = some (.int .u8 ns[i]) := by rw [k1]; simp [hi]
      obtain ⟨_, v, q1, q2, q3⟩ := n3 i _ he
      simp only [VRel] at q1; subst q1
      have := q3 0 _ rfl
      rw [Nat.mul_one, Nat.add_zero] at this
      rw [this]; simp [hi]; rfl
    · have : news.length = ns.length := by rw [n1, k1]; simp
      rw [List.getElem?_eq_none (by omega), List.getElem?_eq_none (by simp; omega)]
  have hsl : ∃ a len cap, xv = .slice a len cap ∧ len = es.length ∧ (a = none → es = []) := by
    cases x <;> simp [elems] at h1 <;> simp only [VRel] at hx
    · subst h1; obtain ⟨a, rfl⟩ := hx; exact ⟨a, 0, 0, rfl, rfl, fun _ => rfl⟩
    · obtain ⟨a, g, h1⟩ := bind_some h1
      obtain ⟨g2, h1⟩ := if_some h1
      simp at h1; subst h1
      obtain ⟨_, _, ad, cap, rfl, z1, z2, z3⟩ := hx
      refine ⟨ad, _, cap, rfl, by simp; omega, fun hn => ?_⟩
      have hc0 : cap = 0 := z3.resolve_right (by rw [hn]; simp)
      apply List.length_eq_zero_iff.1
      simp; omega
    · subst h1
      rcases hx.2 with ⟨_, a, cap, rfl, z1, z2⟩ | ⟨_, _, _, ⟨a, cap, rfl, z1, z2, z3⟩, _⟩
      · refine ⟨a, _, cap, rfl, rfl, fun hn => z2.resolve_right ?_⟩
        rintro ⟨b, o, h, _⟩; rw [hn] at h; simp at h
      · refine ⟨a, _, cap, rfl, rfl, fun hn => ?_⟩
        have hc0 : cap = 0 := z3.resolve_right (by rw [hn]; simp)
        apply List.length_eq_zero_iff.1
        omega
  obtain ⟨a, len, cap, rfl, hlen, hnone⟩ := hsl
  rw [run_convert_bytes_string w src dst e a len cap hs he hd]
  have hfin : ∀ (a : Addr), (loadCells a len).run P w = .ok (ns.map (Value.int .u8)).toArray w → (Conv.bytesToString (.slice (some a) len cap)).run P w = .ok (.string ⟨l.toArray⟩) w := by
    intro a ha
    rw [run_bytesToString w a len cap ns ha, push_fold, k2]
    simp [ByteArray.empty, ByteArray.emptyWithCapacity]
    rfl
  cases a with
  | none =>
    have he0 := hnone rfl
    have hn0 : ns = [] := by
      have : ns.length = 0 := by have := congrArg List.length k1; simp [he0] at this; omega
      exact List.length_eq_zero_iff.1 this
    refine ⟨.string .empty, by simp [Conv.bytesToString], ?_⟩
    simp only [VRel]
    rw [k2, hn0]; rfl
  | some a =>
    have hc := n2.cells
    simp [Builtin.firstCells] at hc
    refine ⟨_, hfin a ?_, by simp only [VRel]⟩
    rw [hlen, ← hnews]; simpa using hc

end
end Go.Proofs.YtilbmpdeginabaaFw
