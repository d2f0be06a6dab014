/- Stores, literals, append. Conditions: none beside each theorem's own. -/
import Derived.Test.YtilbmpdeginabaaFw6
import Derived.Deep.Upon
namespace Go.Proofs.YtilbmpdeginabaaFw
open Go Go.RowKit
set_option linter.unusedSimpArgs false
set_option linter.unusedVariables false

section
variable {P : Program} {c : Cx} {w w' : World} {H : Nat → Option LArr} {base : Nat}

theorem one_facts {v : AV} (h : v.one = true) : v.stor = true ∧ v.cells = [v] := by
  cases v
  case agg => simp [AV.one] at h
  all_goals exact ⟨h, rfl⟩

theorem cells_rel {v : AV} {x : Value} (h : VRel c w v x) (h1 : v.stor = true) : VRels c w v.cells x.cells.toList ∧ v.cells.all AV.one = true ∧ ∀ y ∈ x.cells.toList, y.oneCell' = true := by
  cases v
  case agg cs =>
    simp only [VRel] at h; obtain ⟨vs, rfl, h⟩ := h
    refine ⟨h, h1, fun y hy => ?_⟩
    obtain ⟨i, hi, rfl⟩ := List.mem_iff_getElem.1 hy
    have hl := VRels_length h
    simp only [Value.cells] at hi ⊢
    have hi' : i < cs.length := by rw [hl]; exact hi
    obtain ⟨u, q1, q2⟩ := VRels_get h i cs[i] (List.getElem?_eq_getElem hi')
    have h2 : (cs[i]).one = true := by
      simp only [AV.stor, List.all_eq_true] at h1
      exact h1 _ (List.getElem_mem hi')
    rw [List.getElem?_eq_getElem hi] at q1
    simp at q1
    have := (one_cells q2 h2).2
    simpa [q1] using this
  all_goals
    first
    | (simp [AV.stor, AV.one] at h1; done)
    | (have h2 := h1; simp only [AV.stor] at h2
       obtain ⟨q1, q2⟩ := one_cells h h2
       simp only [AV.cells, q1, VRels, List.all_cons, List.all_nil, Bool.and_true]
       exact ⟨⟨x, [], rfl, h, rfl⟩, h2, by simpa using q2⟩)

theorem CRel_of {b : Nat} : ∀ (as : List AV) (o : Nat), (∀ (i : Nat) (a : AV), as[i]? = some a → a.one = true ∧ ∃ x, w.cell? ⟨b, o + i, none⟩ = some x ∧ VRel c w a x) → CRel c w as b o
  | [], _, _ => by simp [CRel]
  | a :: as, o, h => by
    simp only [CRel]
    refine ⟨by simpa using h 0 a rfl, CRel_of as (o + 1) (fun i y hi => ?_)⟩
    have := h (i + 1) y (by simpa using hi)
    rwa [show o + 1 + i = o + (i + 1) by omega]

theorem CRel_vals {b : Nat} : ∀ (as : List AV) (o : Nat), CRel c w as b o → ∃ l : List Value, l.length = as.length ∧ (∀ (j : Nat) (x : Value), l[j]? = some x → w.cell? ⟨b, o + j, none⟩ = some x) ∧ VRels c w as l
  | [], _, _ => ⟨[], rfl, by simp, by simp [VRels]⟩
  | a :: as, o, h => by
    simp only [CRel] at h
    obtain ⟨⟨_, x, h1, h2⟩, h3⟩ := h
    obtain ⟨l, k1, k2, k3⟩ := CRel_vals as (o + 1) h3
    refine ⟨x :: l, by simp [k1], fun j y hj => ?_, by simp only [VRels]; exact ⟨x, l, rfl, h2, k3⟩⟩
    cases j with
    | zero => simp at hj; subst hj; exact h1
    | succ j =>
      have := k2 j y (by simpa using hj)
      rwa [show o + 1 + j = o + (j + 1) by omega] at this

theorem elem_of_CRel {e : AV} {b o : Nat} (h1 : e.stor = true) (h : CRel c w e.cells b o) : ∃ v, VRel c w e v ∧ v.cells.size = e.cells.length ∧ Stored w v b o := by
  obtain ⟨l, k1, k2, k3⟩ := CRel_vals _ _ h
  cases e
  case agg cs =>
    refine ⟨.agg l.toArray, by simp only [VRel]; exact ⟨l.toArray, rfl, by simpa [AV.cells] using k3⟩, by simpa [Value.cells, AV.cells] using k1, fun k x hk => k2 k x (by simpa [Value.cells] using hk)⟩
  all_goals
    first
    | (simp [AV.stor, AV.one] at h1; done)
    | (simp only [AV.cells, VRels] at k3
       obtain ⟨x, xs, rfl, h2, h3⟩ := k3
       have hc := (one_cells h2 (by simpa [AV.stor] using h1)).1
       refine ⟨x, h2, by simp [hc, AV.cells], fun k y hk => ?_⟩
       rw [hc] at hk
       have hk0 : k = 0 := by have := (Array.getElem?_eq_some_iff.1 hk).1; simp at this; omega
       subst hk0; simp at hk; subst hk
       exact k2 0 _ rfl)

theorem splice_get {f : Nat} {vs cs : List AV} (hf : f + vs.length ≤ cs.length) (i : Nat) : (splice f vs cs)[i]? = if f ≤ i ∧ i < f + vs.length then vs[i - f]? else cs[i]? := by
  unfold splice
  have ht : (cs.take f).length = f := by simp; omega
  by_cases h1 : i < f
  · rw [if_neg (by omega), List.append_assoc, List.getElem?_append_left (by omega), List.getElem?_take, if_pos h1]
  · by_cases h2 : i < f + vs.length
    · rw [if_pos ⟨by omega, h2⟩, List.getElem?_append_left (by simp; omega), List.getElem?_append_right (by omega), ht]
    · rw [if_neg (by omega), List.getElem?_append_right (by simp; omega), List.getElem?_drop]
      congr 1
      simp; omega

theorem splice_length {f : Nat} {vs cs : List AV} (hf : f + vs.length ≤ cs.length) : (splice f vs cs).length = cs.length := by
  simp [splice]; omega

theorem setElem_ok {f : Nat} {vs : List AV} {e e' : AV} (h : setElem f vs e = some e') (h1 : e.stor = true) (h2 : vs.all AV.one = true) :
    e'.stor = true ∧ e'.cells = splice f vs e.cells ∧ f + vs.length ≤ e.cells.length := by
  have hall : ∀ cs : List AV, cs.all AV.one = true → f + vs.length ≤ cs.length → (splice f vs cs).all AV.one = true := by
    intro cs hc hl
    simp only [List.all_eq_true] at *
    intro x hx
    obtain ⟨i, hi, rfl⟩ := List.mem_iff_getElem.1 hx
    have := splice_get hl i
    rw [List.getElem?_eq_getElem hi] at this
    split at this
    · exact h2 _ (List.mem_of_getElem? this.symm)
    · exact hc _ (List.mem_of_getElem? this.symm)
  cases e
  case agg cs =>
    simp only [setElem] at h
    obtain ⟨hl, h⟩ := if_some h
    simp at h; subst h
    exact ⟨hall cs h1 hl, rfl, hl⟩
  all_goals
    first
    | (simp [AV.stor, AV.one] at h1; done)
    | (simp only [setElem] at h
       split at h
       · simp at h; subst h
         simp only [List.all_cons, List.all_nil, Bool.and_true] at h2
         obtain ⟨o1, o2⟩ := one_facts h2
         refine ⟨o1, by rw [o2]; simp [splice, AV.cells], by simp [AV.cells]⟩
       · simp at h)

/-- many cells of one block written -/
theorem setCells_blk {g : Nat} {e : TypeId} : ∀ (vs : List Value) (o : Nat) (w : World) (cur : Array Value), w.heap[g]? = some (.cells cur e (0, 0)) →
    ∃ cur', (w.setCells g o vs).heap[g]? = some (.cells cur' e (0, 0)) ∧ cur'.size = cur.size
  | [], _, w, cur, h => ⟨cur, h, rfl⟩
  | v :: r, o, w, cur, h => by
    have : (w.setCell ⟨g, o, none⟩ v).heap[g]? = some (.cells (cur.setIfInBounds o v) e (0, 0)) := by
      simp [World.setCell, Array.getElem?_modify, h]
    obtain ⟨cur', h1, h2⟩ := setCells_blk r (o + 1) _ _ this
    exact ⟨cur', h1, by simpa using h2⟩

theorem setCells_rest {g : Nat} : ∀ (vs : List Value) (o : Nat) (w : World), (w.setCells g o vs).os = w.os ∧ (w.setCells g o vs).tape = w.tape ∧ (w.setCells g o vs).output = w.output ∧ (w.setCells g o vs).heap.size = w.heap.size ∧ ∀ k, k ≠ g → (w.setCells g o vs).heap[k]? = w.heap[k]?
  | [], _, w => ⟨rfl, rfl, rfl, rfl, fun _ _ => rfl⟩
  | v :: r, o, w => by
    obtain ⟨h1, h2, h3, h4, h5⟩ := setCells_rest r (o + 1) (w.setCell ⟨g, o, none⟩ v)
    refine ⟨h1, h2, h3, h4.trans (World.size_setCell w _ v), fun k hk => ?_⟩
    rw [World.setCells, h5 k hk]
    exact Below.heap_setCell _ _ _ _ hk

theorem frozen_none {w : World} {b : Nat} {cs : Array Value} {e : TypeId} (h : w.heap[b]? = some (.cells cs e (0, 0))) (o : Nat) : w.frozen? ⟨b, o, none⟩ = false := by
  simp [World.frozen?, h]

theorem cell_some {w : World} {b : Nat} {cs : Array Value} {e : TypeId} (h : w.heap[b]? = some (.cells cs e (0, 0))) {o : Nat} (ho : o < cs.size) : (w.cell? ⟨b, o, none⟩).isSome = true := by
  simp [World.cell?, h, ho]

/-- a local array's contents change, under the same tag -/
theorem Sim_set {j : Nat} {a : LArr} {es : List AV} (S : Sim c w H base) (hj : H j = some a) (hr : c.Rz a.tag) (hc : (c.T a.tag).cap ≠ 0) (hl : es.length ≤ (c.T a.tag).cap)
    (hsz : w'.heap.size = w.heap.size) (hother : ∀ b, b ≠ (c.T a.tag).blk → w'.heap[b]? = w.heap[b]?)
    (hblk : ∃ cs e, w'.heap[(c.T a.tag).blk]? = some (.cells cs e (0, 0)) ∧ cs.size = (c.T a.tag).cap * a.s)
    (hE : Ex c w c w' → ERel c w' a.s es (c.T a.tag).blk 0) : Ex c w c w' ∧ Sim c w' (hput H j { a with es := es }) base := by
  have ho := S.arr j a hj hr
  obtain ⟨b1, b2, b3, b4⟩ := ho.blk hc
  have X : Ex c w c w' := ⟨rfl, fun _ h => ⟨h, rfl⟩, fun _ h => ⟨h, rfl⟩, fun b hb o => cell_of_block (hother b (fun e => b2 (e ▸ hb))) o⟩
  refine ⟨X, S.n0, by rw [hsz]; exact S.hb, fun b hb => by rw [hsz]; exact S.im b hb, S.vinj, S.vb, fun t ht hct => by
    obtain ⟨cs, e, h1, h2⟩ := S.vblk t ht hct
    exact ⟨cs, e, by rw [hother _ (fun e => b2 (.inr ⟨t, ht, hct, e⟩))]; exact h1, h2⟩, S.pos, S.dis, ?_, ?_⟩
  · intro i a' ha hr'
    by_cases hi : i = j
    · subst hi
      rw [hput_self] at ha
      simp at ha; subst ha
      exact ⟨ho.s, ho.pos, hl, fun _ => ⟨b1, b2, hblk, hE X⟩⟩
    · rw [hput_ne _ _ hi] at ha
      have ho' := S.arr i a' ha hr'
      refine ⟨ho'.s, ho'.pos, ho'.len, fun hc' => ?_⟩
      obtain ⟨d1, d2, ⟨cs, e, d3, d4⟩, d5⟩ := ho'.blk hc'
      have hne : (c.T a'.tag).blk ≠ (c.T a.tag).blk := fun e => hi (S.inj i j a' a ha hj hr' hr hc' hc e)
      exact ⟨d1, d2, ⟨cs, e, by rw [hother _ hne]; exact d3, d4⟩, ERel_own X (fun o => cell_of_block (hother _ hne) o) d5⟩
  · intro i i' a1 a2 h1 h2 r1 r2 c1 c2 e
    have fix : ∀ k x, hput H j { a with es := es } k = some x → ∃ y, H k = some y ∧ y.tag = x.tag := by
      intro k x hk
      by_cases hk' : k = j
      · subst hk'
        rw [hput_self] at hk
        simp at hk; subst hk
        exact ⟨a, hj, rfl⟩
      · rw [hput_ne _ _ hk'] at hk; exact ⟨x, hk, rfl⟩
    obtain ⟨y1, z1, t1⟩ := fix i a1 h1
    obtain ⟨y2, z2, t2⟩ := fix i' a2 h2
    rw [← t1] at r1 c1 e; rw [← t2] at r2 c2 e
    exact S.inj i i' y1 y2 z1 z2 r1 r2 c1 c2 e

theorem run_store' {st st' : St} {t : TypeId} {x v : AV} {xv vv : Value} (ht : szOk P t = true) (hx : VRel c w x xv) (hv : VRel c w v vv) (S : Sim c w st.H base) (h : aStore (szOf P t) x v st = some st') :
    ∃ w', (Instr.storeAt t xv vv).run P w = .ok () w' ∧ Ex c w c w' ∧ Below base w w' ∧ Sim c w' st'.H base ∧ st'.m = st.m ∧ st'.n = st.n := by
  cases x <;> simp [aStore] at h
  case ptr j tg i f =>
    obtain ⟨⟨hs1, hs2⟩, h⟩ := h
    obtain ⟨a, h1, h⟩ := bind_some h
    obtain ⟨e, h2, h⟩ := bind_some h
    obtain ⟨e', h3, h⟩ := bind_some h
    simp at h; subst h
    simp only [VRel] at hx
    obtain ⟨hr, hcap, rfl⟩ := hx
    obtain ⟨g1, g2⟩ := get_some h1
    subst g2
    have ho := S.arr j a g1 hr
    obtain ⟨b1, b2, ⟨cs, el, b3, b5⟩, b4⟩ := ho.blk hcap
    obtain ⟨k1, ve, k2, k3, k4⟩ := ERel_get b4 i e h2
    obtain ⟨r1, r2, r3⟩ := cells_rel hv hs1
    obtain ⟨q1, q2, q3⟩ := setElem_ok h3 k1 r2
    have hil : i < a.es.length := (List.getElem?_eq_some_iff.1 h2).1
    have hes : e.cells.length = a.s := by rw [← stor_size k2 k1, k3]
    have hvl : vv.cells.toList.length = v.cells.length := (VRels_length r1).symm
    have hbound : i * a.s + a.s ≤ cs.size := by
      have : (i + 1) * a.s ≤ (c.T a.tag).cap * a.s := Nat.mul_le_mul_right _ (by have := ho.len; omega)
      rw [Nat.add_mul] at this; omega
    have hin : ∀ k, k < vv.cells.toList.length → i * a.s + f + k < cs.size := by intro k hk; rw [hvl] at hk; omega
    have hst := run_storeCells_cells (P := P) (c.T a.tag).blk (i * a.s + f) vv.cells.toList 0 w (fun k hk => by simpa using cell_some b3 (hin k hk)) (fun k _ => frozen_none b3 _) r3
    simp only [Nat.add_zero] at hst
    obtain ⟨s1, s2, s3, s4, s5⟩ := setCells_rest (g := (c.T a.tag).blk) vv.cells.toList (i * a.s + f) w
    obtain ⟨cur, u1, u2⟩ := setCells_blk vv.cells.toList (i * a.s + f) w cs b3
    have hout : ∀ o, (o < i * a.s + f ∨ i * a.s + f + v.cells.length ≤ o) → (w.setCells (c.T a.tag).blk (i * a.s + f) vv.cells.toList).cell? ⟨(c.T a.tag).blk, o, none⟩ = w.cell? ⟨(c.T a.tag).blk, o, none⟩ := fun o ho =>
      World.cell?_setCells_out _ _ _ _ _ (fun _ _ => by rw [hvl]; exact ho)
    obtain ⟨X, S'⟩ := Sim_set (w' := w.setCells (c.T a.tag).blk (i * a.s + f) vv.cells.toList) (es := a.es.set i e') S g1 hr hcap (by simpa using ho.len) s4 s5 ⟨cur, el, u1, by rw [u2, b5]⟩
      (fun X => ERel_of _ _ (fun i' y hy => by
        by_cases hi : i' = i
        · subst hi
          rw [List.getElem?_set_self hil] at hy
          simp at hy; subst hy
          have hC : CRel c (w.setCells (c.T a.tag).blk (i' * a.s + f) vv.cells.toList) e'.cells (c.T a.tag).blk (0 + i' * a.s) := by
            refine CRel_of _ _ (fun k z hz => ?_)
            rw [q2, splice_get q3] at hz
            split at hz
            · rename_i hk
              obtain ⟨zv, z1, z2⟩ := VRels_get r1 _ _ hz
              have hkl : k - f < vv.cells.toList.length := by rw [hvl]; omega
              refine ⟨List.all_eq_true.1 r2 _ (List.mem_of_getElem? hz), zv, ?_, VRel_ex X z2⟩
              have := World.cell?_setCells_in (c.T a.tag).blk vv.cells.toList (i' * a.s + f) w (fun j hj => cell_some b3 (hin j hj)) (k - f) hkl
              rw [show i' * a.s + f + (k - f) = 0 + i' * a.s + k by omega] at this
              rw [this]
              rw [List.getElem?_eq_getElem hkl] at z1
              simpa using z1
            · rename_i hk
              have hzl : k < a.s := by rw [← hes]; exact (List.getElem?_eq_some_iff.1 hz).1
              obtain ⟨y1, yv, y2, y3⟩ := CRel_get (CRel_elem k2 k1 k4) k z hz
              exact ⟨y1, yv, by rw [hout _ (by omega)]; exact y2, VRel_ex X y3⟩
          obtain ⟨v', w1, w2, w3⟩ := elem_of_CRel q1 hC
          exact ⟨q1, v', w1, by rw [w2, q2, splice_length q3, hes], w3⟩
        · rw [List.getElem?_set_ne (fun e => hi e.symm)] at hy
          obtain ⟨y1, yv, y2, y3, y4⟩ := ERel_get b4 i' y hy
          refine ⟨y1, yv, VRel_ex X y2, y3, fun k z hk => ?_⟩
          have hks : k < a.s := by rw [← y3]; exact (Array.getElem?_eq_some_iff.1 hk).1
          rw [hout _ ?_]
          · exact y4 k z hk
          · rcases Nat.lt_or_ge i' i with hlt | hge
            · left
              have : (i' + 1) * a.s ≤ i * a.s := Nat.mul_le_mul_right _ hlt
              rw [Nat.add_mul] at this; omega
            · right
              have : (i + 1) * a.s ≤ i' * a.s := Nat.mul_le_mul_right _ (by omega)
              rw [Nat.add_mul] at this; omega))
    refine ⟨_, ?_, X, ⟨s1, s2, s3, by rw [s4]; exact Nat.le_refl _, fun k hk => s5 k (by omega)⟩, S', rfl, rfl⟩
    have hsize : vv.cells.size = szOf P t := by rw [stor_size hv hs1]; exact hs2
    rw [ho.s]
    simp [Instr.storeAt, Instr.sureAddr, storeVar, run_sizeOf' ht, hsize, hst]

/-! ### what an append takes -/

/-- the cells of what a slice holds, in a row -/
theorem src_rel {st : St} {t e' : TypeId} (ht : P.underlying t = some (.slice e')) {y : AV} {yv : Value} {ys : List AV} {s : Nat} (hy : VRel c w y yv) (S : Sim c w st.H base) (he : elems st y = some ys)
    (hs : y = .nils ∨ stride y = some s) :
    ∃ news : List Value, news.length = ys.length * s ∧ Src P s t yv ys.length news w ∧
      ∀ (i : Nat) (e : AV), ys[i]? = some e → e.stor = true ∧ ∃ v, VRel c w e v ∧ v.cells.size = s ∧ ∀ (k : Nat) (x : Value), v.cells[k]? = some x → news[i * s + k]? = some x := by
  -- from a row of elements in one block
  have fromRow : ∀ (es : List AV) (b o cap : Nat), ERel c w s es b o → es.length ≤ cap → yv = .slice (some ⟨b, o, none⟩) es.length cap →
      ∃ news : List Value, news.length = es.length * s ∧ Src P s t yv es.length news w ∧
      ∀ (i : Nat) (e : AV), es[i]? = some e → e.stor = true ∧ ∃ v, VRel c w e v ∧ v.cells.size = s ∧ ∀ (k : Nat) (x : Value), v.cells[k]? = some x → news[i * s + k]? = some x := by
    intro es b o cap hE hcap hyv
    have get : ∀ q, q < es.length * s → ∃ x, w.cell? ⟨b, o + q, none⟩ = some x ∧ x.oneCell' = true := by
      intro q hq
      have hs0 : 0 < s := by
        rcases Nat.eq_zero_or_pos s with h | h
        · subst h; omega
        · exact h
      have hi : q / s < es.length := by rw [Nat.div_lt_iff_lt_mul hs0]; exact hq
      obtain ⟨k1, v, k2, k3, k4⟩ := ERel_get hE (q / s) es[q / s] (List.getElem?_eq_getElem hi)
      have hm : q % s < v.cells.size := by rw [k3]; exact Nat.mod_lt _ hs0
      have hx := k4 (q % s) v.cells[q % s] (Array.getElem?_eq_getElem hm)
      rw [show o + q / s * s + q % s = o + q by rw [Nat.add_assoc, Nat.mul_comm, Nat.div_add_mod]] at hx
      exact ⟨_, hx, (cells_rel k2 k1).2.2 _ (by simp)⟩
    let f : Nat → Value := fun q => (w.cell? ⟨b, o + q, none⟩).getD undef
    have hf : ∀ q x, w.cell? ⟨b, o + q, none⟩ = some x → f q = x := fun q x h => by simp [f, h]
    refine ⟨(List.range (es.length * s)).map f, by simp, ?_, ?_⟩
    · subst hyv
      refine Src.ofSlice w ht ⟨b, o, none⟩ es.length cap _ (by simp) ?_ ?_
      · intro j u hj
        have hjl : j < es.length * s := by simpa using (List.getElem?_eq_some_iff.1 hj).1
        obtain ⟨x, h1, _⟩ := get j hjl
        simp [hjl] at hj
        rw [Addr.add_lit, h1, ← hf j x h1, hj]
      · intro u hu
        obtain ⟨j, hj, rfl⟩ := List.mem_map.1 hu
        obtain ⟨x, h1, h2⟩ := get j (by simpa using hj)
        rw [hf j x h1]; exact h2
    · intro i e hi
      obtain ⟨k1, v, k2, k3, k4⟩ := ERel_get hE i e hi
      refine ⟨k1, v, k2, k3, fun k x hk => ?_⟩
      have hks : k < s := by rw [← k3]; exact (Array.getElem?_eq_some_iff.1 hk).1
      have hil : i < es.length := (List.getElem?_eq_some_iff.1 hi).1
      have hq : i * s + k < es.length * s := by
        have : (i + 1) * s ≤ es.length * s := Nat.mul_le_mul_right _ hil
        rw [Nat.add_mul] at this; omega
      have := hf (i * s + k) x (by rw [← Nat.add_assoc]; exact k4 k x hk)
      simp [hq, this]
  have fromNone : ∀ (a : Option Addr) (cap : Nat), yv = .slice a 0 cap → ∃ news : List Value, news.length = ([] : List AV).length * s ∧ Src P s t yv ([] : List AV).length news w ∧
      ∀ (i : Nat) (e : AV), ([] : List AV)[i]? = some e → e.stor = true ∧ ∃ v, VRel c w e v ∧ v.cells.size = s ∧ ∀ (k : Nat) (x : Value), v.cells[k]? = some x → news[i * s + k]? = some x := by
    intro a cap hyv
    subst hyv
    refine ⟨[], by simp, ?_, by simp⟩
    cases a with
    | none => exact Src.ofNil w ht cap
    | some a => exact Src.ofSlice w ht a 0 cap [] (by simp) (by simp) (by simp)
  cases y <;> simp [elems] at he
  case nils =>
    subst he
    simp only [VRel] at hy
    obtain ⟨a, rfl⟩ := hy
    exact fromNone a 0 rfl
  case lsl j tg s' off len =>
    have hs' : s' = s := by simpa [stride] using hs
    subst hs'
    obtain ⟨a, h1, he⟩ := bind_some he
    obtain ⟨h2, he⟩ := if_some he
    simp at he; subst he
    simp only [VRel] at hy
    obtain ⟨hr, q1, ad, cap, rfl, q2, q3, q4⟩ := hy
    obtain ⟨g1, g2⟩ := get_some h1
    subst g2
    have ho := S.arr j a g1 hr
    have hlen : ((a.es.drop off).take len).length = len := by simp; omega
    by_cases hc : cap = 0
    · have hl0 : len = 0 := by omega
      subst hl0
      simpa using fromNone ad cap rfl
    · obtain ⟨b1, b2, b3, b4⟩ := ho.blk (by omega)
      have hsa : a.s = s' := by rw [← ho.s, q1]
      have had := q4.resolve_left hc
      subst had
      refine fromRow _ _ _ cap (ERel_of _ _ (fun i e hi => ?_)) (by rw [hlen]; exact q3) (by rw [hlen])
      have : a.es[off + i]? = some e := by
        rw [List.getElem?_take] at hi
        split at hi
        · rwa [List.getElem?_drop] at hi
        · simp at hi
      have := ERel_get b4 _ _ this
      rw [hsa, Nat.zero_add, Nat.add_mul] at this
      rw [q1]
      exact this
  case sl tg off s' es =>
    have hs' : s' = s := by simpa [stride] using hs
    subst hs'; subst he
    by_cases hne : es = []
    · subst hne
      simp only [VRel] at hy
      rcases hy.2 with ⟨_, a, cap, rfl, _⟩ | ⟨_, _, _, ⟨a, cap, rfl, _⟩, _⟩ <;> exact fromNone a cap rfl
    · obtain ⟨b, o, cap, rfl, h2, h3, h4⟩ := sl_place hy hne
      exact fromRow es b o cap h4 h2 rfl

theorem nextcap_bound (need old : Nat) (h : old < need) : Builtin.nextslicecap need old ≤ 2 * need + 1024 := by
  have grow : ∀ r c, c < need → Builtin.growBy need r c ≤ 2 * need + 1024 := by
    intro r
    induction r with
    | zero => intro c hc; simp [Builtin.growBy]; omega
    | succ r ih =>
      intro c hc
      simp only [Builtin.growBy]
      rw [if_neg (by omega)]
      by_cases h2 : c + (c + 768) / 4 < need
      · exact ih _ h2
      · cases r with
        | zero => simp [Builtin.growBy]; omega
        | succ r => simp only [Builtin.growBy]; rw [if_pos (by omega)]; omega
  unfold Builtin.nextslicecap
  split
  · omega
  · split
    · omega
    · exact grow 4 old h

/-- what an append leaves: in the old block, or in a new one -/
theorem run_app_core {t t' ty e e' : TypeId} {z : AV} (he : elemOf? P t = some e) (ht' : P.underlying t' = some (.slice e')) (hz : zeroOf P e = some z)
    {a : Option Addr} {len cap : Nat} {blk : Nat} {pre ys : List AV} {news : List Value} {yv : Value} (hpre : pre.length = len) (hlc : len ≤ cap) (ha : cap = 0 ∨ a = some ⟨blk, 0, none⟩)
    (hblk : cap ≠ 0 → (∃ cs el, w.heap[blk]? = some (.cells cs el (0, 0)) ∧ cs.size = cap * szOf P e) ∧ ERel c w (szOf P e) pre blk 0)
    (hnl : news.length = ys.length * szOf P e) (hsrc : Src P (szOf P e) t' yv ys.length news w)
    (hnews : ∀ (i : Nat) (el : AV), ys[i]? = some el → el.stor = true ∧ ∃ v, VRel c w el v ∧ v.cells.size = szOf P e ∧ ∀ (k : Nat) (x : Value), v.cells[k]? = some x → news[i * szOf P e + k]? = some x)
    (hm : len + ys.length ≤ maxNeed) :
    (len + ys.length ≤ cap ∧ (Builtin.append_ #[t, t'] ty #[.slice a len cap, yv]).run P w = .ok (.slice a (len + ys.length) cap) (w.setCells blk (len * szOf P e) news) ∧ (cap = 0 → news = [])) ∨
    (∃ (cs : Array Value) (el : TypeId) (cap' : Nat), (Builtin.append_ #[t, t'] ty #[.slice a len cap, yv]).run P w = .ok (.slice (some ⟨w.heap.size, 0, none⟩) (len + ys.length) cap') (w.drew.alloc (.cells cs el)) ∧
      len + ys.length ≤ cap' ∧ cs.size = cap' * szOf P e ∧ ∀ (i : Nat) (x : AV), (pre ++ ys)[i]? = some x → x.stor = true ∧ ∃ v, VRel c w x v ∧ v.cells.size = szOf P e ∧ ∀ (k : Nat) (u : Value), v.cells[k]? = some u → cs[i * szOf P e + k]? = some u) := by
  obtain ⟨inf, d, h1, h2, h3, h4, h5, h6, h7⟩ := elem_ok he
  obtain ⟨i', zv, g1, g2, g3, g4, g5⟩ := zero_ok hz
  rw [h2] at g1; simp at g1; subst g1
  by_cases hroom : len + ys.length ≤ cap
  · left
    have nil0 : cap = 0 → news = [] := fun hc => by
      have hy0 : ys.length = 0 := by omega
      have : news.length = 0 := by rw [hnl, hy0, Nat.zero_mul]
      exact List.length_eq_zero_iff.1 this
    refine ⟨hroom, ?_, nil0⟩
    by_cases hc : cap = 0
    · have hy0 : ys.length = 0 := by omega
      have hn0 : news = [] := nil0 hc
      subst hn0
      rw [hy0] at hsrc
      have := run_append_nothing (P := P) w t t' ty e inf h1 h2 a len cap hlc yv (by rw [← h4]; exact hsrc)
      rw [this, hy0]; simp [World.setCells]
    · obtain ⟨⟨cs, el, b1, b2⟩, b3⟩ := hblk hc
      obtain rfl := ha.resolve_left hc
      have hb : ∀ j, j < news.length → len * szOf P e + j < cs.size := by
        intro j hj
        rw [hnl] at hj
        have : (len + ys.length) * szOf P e ≤ cap * szOf P e := Nat.mul_le_mul_right _ hroom
        rw [Nat.add_mul] at this; omega
      have := run_append_room_src (P := P) w t t' ty e inf h1 h2 blk 0 len cap yv ys.length news (by rw [← h4]; exact hsrc) hroom
        (fun j hj => by rw [Nat.zero_add, ← h4]; exact cell_some b1 (hb j hj)) (fun j hj => frozen_none b1 _)
      rw [this, Nat.zero_add, h4]
  · right
    -- the old cells
    obtain ⟨olds, o1, o2, o3⟩ : ∃ olds : List Value, olds.length = len * szOf P e ∧ (Builtin.firstCells inf.size len (.slice a len cap)).run P w.drew = .ok olds.toArray w.drew ∧
        ∀ (i : Nat) (x : AV), pre[i]? = some x → x.stor = true ∧ ∃ v, VRel c w x v ∧ v.cells.size = szOf P e ∧ ∀ (k : Nat) (u : Value), v.cells[k]? = some u → olds[i * szOf P e + k]? = some u := by
      by_cases hc : cap = 0
      · have hl0 : len = 0 := by omega
        subst hl0
        have hp : pre = [] := List.length_eq_zero_iff.1 hpre
        subst hp
        refine ⟨[], by simp, ?_, by simp⟩
        cases a with
        | none => exact run_firstCells_none w.drew _ _ _ _
        | some a => exact run_firstCells_some w.drew _ _ _ _ _ [] (by simp) (by simp)
      · obtain ⟨⟨cs, el, b1, b2⟩, b3⟩ := hblk hc
        obtain rfl := ha.resolve_left hc
        have hin : ∀ q, q < len * szOf P e → q < cs.size := by
          intro q hq
          have : len * szOf P e ≤ cap * szOf P e := Nat.mul_le_mul_right _ hlc
          omega
        have htl : (cs.toList.take (len * szOf P e)).length = len * szOf P e := by
          have := Nat.mul_le_mul_right (szOf P e) hlc
          rw [List.length_take, Array.length_toList]
          omega
        refine ⟨(cs.toList.take (len * szOf P e)), htl, ?_, ?_⟩
        · refine run_firstCells_some w.drew _ _ _ _ _ _ (by rw [htl, h4]) ?_
          intro j v hj
          rw [List.getElem?_take] at hj
          split at hj
          · rw [Addr.add_lit, World.cell?_drew]
            simp [World.cell?, b1]
            simpa using hj
          · simp at hj
        · intro i x hi
          obtain ⟨k1, v, k2, k3, k4⟩ := ERel_get b3 i x hi
          refine ⟨k1, v, k2, k3, fun k u hk => ?_⟩
          have hks : k < szOf P e := by rw [← k3]; exact (Array.getElem?_eq_some_iff.1 hk).1
          have hil : i < len := by rw [← hpre]; exact (List.getElem?_eq_some_iff.1 hi).1
          have hq : i * szOf P e + k < len * szOf P e := by
            have : (i + 1) * szOf P e ≤ len * szOf P e := Nat.mul_le_mul_right _ hil
            rw [Nat.add_mul] at this; omega
          have := k4 k u hk
          simp [World.cell?, b1] at this
          rw [List.getElem?_take, if_pos hq]
          simpa using this
    have hm' : len + ys.length ≤ 4294967296 := hm
    have hcap := nextcap_bound (len + ys.length) cap (by omega)
    have hbytes : Builtin.nextslicecap (len + ys.length) cap * inf.bytes ≤ 281474976710656 := by
      have : Builtin.nextslicecap (len + ys.length) cap * inf.bytes ≤ (2 * 4294967296 + 1024) * 4096 := Nat.mul_le_mul (by omega) h6
      omega
    have hrun := run_append_grow_src (P := P) w t t' ty e inf zv h1 h2 g2 a len cap olds o2 yv ys.length news (by rw [← h4]; exact hsrc) (by omega) (by omega) hbytes
    have hge := grownCap_ge w (len + ys.length) cap e
    refine ⟨_, _, _, hrun, hge, ?_, ?_⟩
    · simp [Builtin.zeroCells, o1, hnl, g5, h4]
      rw [← Nat.add_mul, ← Nat.add_mul]
      congr 1; omega
    · intro i x hi
      have split : (∃ hi : pre[i]? = some x, i < len) ∨ (ys[i - len]? = some x ∧ len ≤ i) := by
        by_cases hlt : i < len
        · rw [List.getElem?_append_left (by omega)] at hi; exact .inl ⟨hi, hlt⟩
        · rw [List.getElem?_append_right (by omega), hpre] at hi; exact .inr ⟨hi, by omega⟩
      have lift : ∀ (q : Nat) (u : Value), (olds ++ news)[q]? = some u → ((olds ++ news).toArray ++ Builtin.zeroCells zv.cells (grownCap w (len + ys.length) cap e - (len + ys.length)))[q]? = some u := by
        intro q u hq
        have hlt : q < (olds ++ news).length := (List.getElem?_eq_some_iff.1 hq).1
        rw [Array.getElem?_append_left (by simpa using hlt)]
        simpa using hq
      rcases split with ⟨hi, hlt⟩ | ⟨hi, hge⟩
      · obtain ⟨k1, v, k2, k3, k4⟩ := o3 i x hi
        refine ⟨k1, v, k2, k3, fun k u hk => lift _ _ ?_⟩
        have := k4 k u hk
        rw [List.getElem?_append_left (List.getElem?_eq_some_iff.1 this).1]; exact this
      · obtain ⟨k1, v, k2, k3, k4⟩ := hnews _ x hi
        refine ⟨k1, v, k2, k3, fun k u hk => lift _ _ ?_⟩
        have := k4 k u hk
        have e1 : i * szOf P e + k = olds.length + ((i - len) * szOf P e + k) := by
          rw [o1, ← Nat.add_assoc, ← Nat.add_mul]; congr 2; omega
        rw [e1, List.getElem?_append_right (by omega), Nat.add_sub_cancel_left]; exact this

end
end Go.Proofs.YtilbmpdeginabaaFw
