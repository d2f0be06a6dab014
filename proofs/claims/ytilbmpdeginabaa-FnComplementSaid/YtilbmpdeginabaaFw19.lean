/- What comes in, read as trees. Conditions: none beside each theorem's own. -/
import Derived.Test.YtilbmpdeginabaaFw18
import Derived.ChangeArms
import Derived.WideShapes
namespace Go.Proofs.YtilbmpdeginabaaFw
open Go Go.RowKit
set_option linter.unusedSimpArgs false
set_option linter.unusedVariables false

/-- a cell's kind -/
inductive CT where
  | bool
  | int (k : IntKind)
  | str
  | sl (agg : Bool) (es : List CT)

mutual
def CT.has : CT → AV → Prop
  | .bool, v => ∃ b, v = .bool b
  | .int k, v => ∃ n, v = .int k n ∧ (Lit.int k n).wf = true
  | .str, v => ∃ s : ByteArray, v = .str s ∧ s.size ≤ maxLen
  | .sl agg es, v => ∃ xs, v = .sl 0 0 es.length xs ∧ xs.length ≤ maxLen ∧ ∀ x ∈ xs, (agg = true ∧ ∃ cs, x = .agg cs ∧ hasL es cs) ∨ (agg = false ∧ hasL es [x])
def hasL : List CT → List AV → Prop
  | [], cs => cs = []
  | t :: ts, cs => ∃ c r, cs = c :: r ∧ t.has c ∧ hasL ts r
end

def elHas (agg : Bool) (es : List CT) (x : AV) : Prop := (agg = true ∧ ∃ cs, x = .agg cs ∧ hasL es cs) ∨ (agg = false ∧ hasL es [x])

theorem hasL_length : ∀ {ts : List CT} {cs : List AV}, hasL ts cs → cs.length = ts.length
  | [], cs, h => by simp only [hasL] at h; subst h; rfl
  | t :: ts, cs, h => by simp only [hasL] at h; obtain ⟨c, r, rfl, _, h⟩ := h; simp [hasL_length h]

mutual
theorem has_ok : ∀ {t : CT} {v : AV}, t.has v → v.one = true ∧ v.tree = true
  | .bool, v, h => by simp only [CT.has] at h; obtain ⟨b, rfl⟩ := h; exact ⟨rfl, rfl⟩
  | .int k, v, h => by simp only [CT.has] at h; obtain ⟨b, rfl, _⟩ := h; exact ⟨rfl, rfl⟩
  | .str, v, h => by simp only [CT.has] at h; obtain ⟨b, rfl, _⟩ := h; exact ⟨rfl, rfl⟩
  | .sl agg es, v, h => by
    simp only [CT.has] at h
    obtain ⟨xs, rfl, _, h⟩ := h
    refine ⟨rfl, ?_⟩
    simp only [AV.tree]
    refine treeL_iff.2 fun x hx => ?_
    rcases h x hx with ⟨_, cs, rfl, h⟩ | ⟨_, h⟩
    · simp only [AV.tree]; exact (hasL_ok h).2
    · have := (hasL_ok h).2; simpa [treeL] using this
theorem hasL_ok : ∀ {ts : List CT} {cs : List AV}, hasL ts cs → cs.all AV.one = true ∧ treeL cs = true
  | [], cs, h => by simp only [hasL] at h; subst h; exact ⟨rfl, rfl⟩
  | t :: ts, cs, h => by
    simp only [hasL] at h
    obtain ⟨c, r, rfl, h1, h2⟩ := h
    obtain ⟨a1, a2⟩ := has_ok h1
    obtain ⟨b1, b2⟩ := hasL_ok h2
    exact ⟨by simp [a1, b1], by simp [treeL, a2, b2]⟩
end

def fieldsTy (P : Program) (g : TypeId → Option (List CT)) : List Field → Nat → Option (List CT)
  | [], _ => some []
  | f :: fs, off => if f.offset = off then (g f.type).bind fun ts => if ts.length = P.cellsOf f.type then (fieldsTy P g fs (off + ts.length)).bind fun r => some (ts ++ r) else none else none

def cellsTy (P : Program) : Nat → TypeId → Option (List CT)
  | 0, _ => none
  | d + 1, t => match P.underlying t with
    | some .bool => some [.bool]
    | some (.int k) => some [.int k]
    | some .string => some [.str]
    | some (.slice e) => (cellsTy P d e).bind fun ts => if ts.length = P.cellsOf e ∧ ts.length ≠ 0 then some [.sl (aggOf P e) ts] else none
    | some (.struct fs) => (fieldsTy P (cellsTy P d) fs.toList 0).bind fun ts => if ts.length = P.cellsOf t then some ts else none
    | _ => none

theorem cellsTy_one {P : Program} {d : Nat} {t : TypeId} {ts : List CT} (h : cellsTy P d t = some ts) (ha : aggOf P t = false) : ts.length = 1 := by
  cases d with
  | zero => simp [cellsTy] at h
  | succ d =>
    simp only [cellsTy] at h
    unfold aggOf at ha
    split at h
    · simp at h; subst h; rfl
    · simp at h; subst h; rfl
    · simp at h; subst h; rfl
    · obtain ⟨ts', _, h⟩ := bind_some h
      obtain ⟨_, h⟩ := if_some h
      simp at h; subst h; rfl
    · rename_i e; rw [e] at ha; simp at ha
    · simp at h

theorem list_choose {α : Type} {p : Nat → α → Prop} : ∀ (n : Nat), (∀ i, i < n → ∃ x, p i x) → ∃ l : List α, l.length = n ∧ ∀ i x, l[i]? = some x → p i x
  | 0, _ => ⟨[], rfl, by simp⟩
  | n + 1, h => by
    obtain ⟨l, h1, h2⟩ := list_choose n (fun i hi => h i (by omega))
    obtain ⟨x, hx⟩ := h n (by omega)
    refine ⟨l ++ [x], by simp [h1], fun i y hy => ?_⟩
    by_cases hi : i < l.length
    · rw [List.getElem?_append_left hi] at hy; exact h2 i y hy
    · rw [List.getElem?_append_right (by omega)] at hy
      have : i = n := by
        by_cases e : i - l.length = 0
        · omega
        · obtain ⟨k, hk⟩ := Nat.exists_eq_succ_of_ne_zero e
          rw [hk] at hy; simp at hy
      subst this
      rw [h1] at hy; simp at hy; subst hy; exact hx

def inCx (w : World) : Cx := { N0 := w.heap.size, T := fun _ => ⟨0, 0, 0⟩, Vd := fun _ => False, Rz := fun _ => False }

theorem cell_at {w : World} {a : Addr} {x : Value} (h : w.cell? a = some x) : a.spot = none ∧ a.block < w.heap.size := by
  unfold World.cell? at h
  cases hb : w.heap[a.block]? with
  | none => simp [hb] at h
  | some o =>
    refine ⟨?_, (Array.getElem?_eq_some_iff.1 hb).1⟩
    rw [hb] at h
    cases o with
    | cells cs t fr =>
      cases hs : a.spot with
      | none => rfl
      | some s => simp [hs] at h
    | _ => simp at h

section
variable {H : Type} {enc : TypeId × Value → H} {P : Program} {w : World} {spare : Nat → Bool} {held : Bool}

theorem fields_open {g : TypeId → Option (List CT)} {n : Nat} {cs : List Value} (hg : ∀ t ts cs x, g t = some ts → DataW.trod enc P w 0 spare held n t cs = some x → ∃ as, VRels (inCx w) w as cs ∧ hasL ts as) :
    ∀ (fs : List Field) (off : Nat) (ts : List CT), fieldsTy P g fs off = some ts → (∀ f ∈ fs, ∃ x, DataW.trod enc P w 0 spare held n f.type ((cs.drop f.offset).take (P.cellsOf f.type)) = some x) →
      cs.length = off + ts.length → ∃ as, VRels (inCx w) w as (cs.drop off) ∧ hasL ts as
  | [], off, ts, h, _, hl => by
    simp [fieldsTy] at h; subst h
    refine ⟨[], ?_, by simp [hasL]⟩
    simp only [VRels]
    exact List.drop_eq_nil_of_le (by simp at hl; omega)
  | f :: fs, off, ts, h, hx, hl => by
    simp only [fieldsTy] at h
    obtain ⟨h1, h⟩ := if_some h
    obtain ⟨u, h2, h⟩ := bind_some h
    obtain ⟨h3, h⟩ := if_some h
    obtain ⟨r, h4, h⟩ := bind_some h
    simp at h; subst h
    obtain ⟨x, hx1⟩ := hx f (by simp)
    obtain ⟨as, a1, a2⟩ := hg _ _ _ _ h2 hx1
    simp only [List.length_append] at hl
    obtain ⟨bs, b1, b2⟩ := fields_open hg fs (off + u.length) r h4 (fun f hf => hx f (List.mem_cons_of_mem _ hf)) (by omega)
    refine ⟨as ++ bs, ?_, ?_⟩
    · have e : cs.drop off = (cs.drop off).take u.length ++ cs.drop (off + u.length) := by
        rw [← List.drop_drop]; exact (List.take_append_drop _ _).symm
      rw [e]
      rw [h1, ← h3] at a1
      exact VRels_append a1 b1
    · exact hasL_append a2 b2
where
  VRels_append : ∀ {as bs : List AV} {xs ys : List Value}, VRels (inCx w) w as xs → VRels (inCx w) w bs ys → VRels (inCx w) w (as ++ bs) (xs ++ ys)
    | [], bs, xs, ys, h, k => by simp only [VRels] at h; subst h; exact k
    | a :: as, bs, xs, ys, h, k => by
      simp only [VRels] at h
      obtain ⟨x, xs, rfl, h1, h2⟩ := h
      simp only [List.cons_append, VRels]
      exact ⟨x, _, rfl, h1, VRels_append h2 k⟩
  hasL_append : ∀ {ts us : List CT} {as bs : List AV}, hasL ts as → hasL us bs → hasL (ts ++ us) (as ++ bs)
    | [], us, as, bs, h, k => by simp only [hasL] at h; subst h; exact k
    | t :: ts, us, as, bs, h, k => by
      simp only [hasL] at h
      obtain ⟨c, r, rfl, h1, h2⟩ := h
      simp only [List.cons_append, hasL]
      exact ⟨c, _, rfl, h1, hasL_append h2 k⟩

theorem cells_open : ∀ (d : Nat) (t : TypeId) (ts : List CT) (fuel : Nat) (cs : List Value) (x : DataW H × List MemPlace), cellsTy P d t = some ts → DataW.trod enc P w 0 spare held fuel t cs = some x →
    ∃ as, VRels (inCx w) w as cs ∧ hasL ts as
  | 0, t, ts, fuel, cs, x, h, _ => by simp [cellsTy] at h
  | d + 1, t, ts, fuel, cs, x, h, hx => by
    simp only [cellsTy] at h
    split at h
    · rename_i hu
      simp at h; subst h
      obtain ⟨b, rfl, _⟩ := DataW.trod_bool hu hx
      exact ⟨[.bool b], by simp [VRels, VRel], by simp [hasL, CT.has]⟩
    · rename_i k hu
      simp at h; subst h
      obtain ⟨n, rfl, _, hw⟩ := DataW.trod_int hu hx
      exact ⟨[.int k n], by simp [VRels, VRel], by simp [hasL, CT.has, hw]⟩
    · rename_i hu
      simp at h; subst h
      obtain ⟨s, rfl, _, hs⟩ := DataW.trod_string hu hx
      exact ⟨[.str s], by simp [VRels, VRel], by simp [hasL, CT.has, hs]⟩
    · rename_i e hu
      obtain ⟨us, h1, h⟩ := bind_some h
      obtain ⟨⟨h2, h2'⟩, h⟩ := if_some h
      simp at h; subst h
      rcases DataW.trod_slice hu hx with ⟨rfl, _⟩ | ⟨a, len, cap, elems, rest, n, _, rfl, _, _, hl, hm, hlen, hel, _, _⟩
      · exact ⟨[.sl 0 0 us.length []], by simp [VRels, VRel, treeL], by simp [hasL, CT.has]⟩
      · have each : ∀ i, i < len → ∃ ev : AV × Value, (ev.1.stor = true ∧ ev.1.tree = true ∧ elHas (aggOf P e) us ev.1) ∧ VRel (inCx w) w ev.1 ev.2 ∧ ev.2.cells.size = us.length ∧ a.spot = none ∧ a.block < w.heap.size ∧
            Stored w ev.2 a.block (a.off + i * us.length) := fun i hi => by
          have h3 := hel i hi
          rw [List.getElem?_eq_getElem (by omega)] at h3
          obtain ⟨cl, h4, h5⟩ := bind_some h3
          unfold World.cells? at h4
          obtain ⟨_, h4⟩ := if_some h4
          have hcl : cl.length = us.length := by have := mapM_some_length h4; simp at this; omega
          have hget : ∀ k y, cl[k]? = some y → w.cell? ((a.add (i * P.cellsOf e)).add k) = some y := fun k y hk => by
            have hk' : k < cl.length := (List.getElem?_eq_some_iff.1 hk).1
            have := mapM_some_get h4 k k (by rw [List.getElem?_range (by omega)])
            rw [this]; exact hk
          have h0 : ∃ y, cl[0]? = some y := ⟨cl[0]'(by omega), List.getElem?_eq_getElem (by omega)⟩
          obtain ⟨y0, hy0⟩ := h0
          have hspot : a.spot = none ∧ a.block < w.heap.size := by
            have h6 := (hel 0 (by omega))
            rw [List.getElem?_eq_getElem (by omega)] at h6
            obtain ⟨cl', h7, _⟩ := bind_some h6
            unfold World.cells? at h7
            obtain ⟨_, h7⟩ := if_some h7
            have hl' : cl'.length = us.length := by have := mapM_some_length h7; simp at this; omega
            have := mapM_some_get h7 0 0 (by rw [List.getElem?_range (by omega)])
            rw [List.getElem?_eq_getElem (by omega)] at this
            exact cell_at (a := a) (by simpa [Addr.add] using this)
          obtain ⟨as, a1, a2⟩ := cells_open d e us n cl _ h1 h5
          have hal := hasL_length a2
          obtain ⟨q1, q2⟩ := hasL_ok a2
          have place : ∀ k, (a.add (i * P.cellsOf e)).add k = ⟨a.block, a.off + i * us.length + k, none⟩ := fun k => by
            obtain ⟨b, o, s⟩ := a
            simp only at hspot
            obtain ⟨rfl, _⟩ := hspot
            rw [← h2]
            unfold Addr.add
            by_cases e1 : i * us.length = 0 <;> by_cases e2 : k = 0 <;> simp [e1, e2]
          cases hag : aggOf P e with
          | true =>
            refine ⟨(.agg as, .agg cl.toArray), ⟨q1, by simp only [AV.tree]; exact q2, .inl ⟨rfl, as, rfl, a2⟩⟩, by simp only [VRel]; exact ⟨cl.toArray, rfl, a1⟩, by simp [Value.cells, hcl], hspot.1, hspot.2, fun k y hk => ?_⟩
            have := hget k y (by simpa [Value.cells] using hk)
            rw [place k] at this; exact this
          | false =>
            have hone := cellsTy_one h1 hag
            obtain ⟨u, rfl⟩ := List.length_eq_one_iff.1 hone
            obtain ⟨x1, rfl⟩ := List.length_eq_one_iff.1 (hal.trans hone)
            simp only [VRels] at a1
            obtain ⟨y, ys, rfl, r1, rfl⟩ := a1
            simp only [List.all_cons, List.all_nil, Bool.and_true] at q1
            obtain ⟨z1, _⟩ := one_cells r1 q1
            refine ⟨(x1, y), ⟨by cases x1 <;> simp_all [AV.stor, AV.one], by simpa [treeL] using q2, .inr ⟨rfl, a2⟩⟩, r1, by rw [z1]; rfl, hspot.1, hspot.2, fun k z hk => ?_⟩
            rw [z1] at hk
            have := hget k z (by simpa using hk)
            rw [place k] at this; exact this
        obtain ⟨l, l1, l2⟩ := list_choose len each
        have hmap : ∀ (i : Nat) (e : AV), (l.map (·.1))[i]? = some e → ∃ v, l[i]? = some (e, v) := fun i e he => by
          simp only [List.getElem?_map, Option.map_eq_some_iff] at he
          obtain ⟨p, h1, rfl⟩ := he
          exact ⟨p.2, h1⟩
        have hmem : ∀ x ∈ l.map (·.1), ∃ i v, l[i]? = some (x, v) := fun x hx => by
          obtain ⟨i, hi, rfl⟩ := List.mem_iff_getElem.1 hx
          obtain ⟨v, hv⟩ := hmap i _ (List.getElem?_eq_getElem hi)
          exact ⟨i, v, hv⟩
        refine ⟨[.sl 0 0 us.length (l.map (·.1))], ?_, ?_⟩
        · simp only [VRels, VRel]
          refine ⟨_, [], rfl, ⟨treeL_iff.2 fun x hx => ?_, .inl ⟨trivial, some a, cap, by simp [l1], by simpa [l1] using hl, ?_⟩⟩, rfl⟩
          · obtain ⟨i, v, hv⟩ := hmem x hx
            exact (l2 i _ hv).1.2.1
          · cases hl0 : l with
            | nil => exact .inl rfl
            | cons p r =>
              right
              have := l2 0 p (by simp [hl0])
              obtain ⟨b, o, s⟩ := a
              obtain ⟨_, _, _, hs, hb, _⟩ := this
              simp only at hs; subst hs
              refine ⟨b, o, rfl, hb, ?_⟩
              rw [← hl0]
              refine ERel_of _ _ fun i e he => ?_
              obtain ⟨v, hv⟩ := hmap i e he
              obtain ⟨⟨m1, _, _⟩, m2, m3, _, _, m4⟩ := l2 i _ hv
              exact ⟨m1, v, m2, m3, m4⟩
        · simp only [hasL, CT.has]
          refine ⟨_, [], rfl, ⟨_, rfl, by simp [l1]; omega, fun x hx => ?_⟩, rfl⟩
          obtain ⟨i, v, hv⟩ := hmem x hx
          exact (l2 i _ hv).1.2.2
    · rename_i fs hu
      obtain ⟨us, h1, h⟩ := bind_some h
      obtain ⟨h2, h⟩ := if_some h
      simp at h; subst h
      obtain ⟨xs, n, _, _, hl, hlen, hf⟩ := DataW.trod_struct hu hx
      have := fields_open (cs := cs) (n := n) (fun t ts cs x h1 h2 => cells_open d t ts n cs x h1 h2) fs.toList 0 us h1 (fun f hfm => by
        obtain ⟨i, hi, rfl⟩ := List.mem_iff_getElem.1 hfm
        have hi' : i < fs.size := by simpa using hi
        have := hf i fs[i] (by simp [hi'])
        exact ⟨xs[i]'(by omega), by rw [Array.getElem_toList, this]; exact List.getElem?_eq_getElem (by omega)⟩) (by omega)
      simpa using this
    · simp at h

/-- an argument's kind -/
def argTy (P : Program) (t : TypeId) : Option (Bool × List CT) := (cellsTy P 8 t).map fun ts => (aggOf P t, ts)

theorem arg_open {r : Reach} {b0 : Nat} {W0 : World} {t : TypeId} {v : Value} {d : DataW H} {p : List MemPlace} {agg : Bool} {ts : List CT} (ht : argTy P t = some (agg, ts)) (hv : Value.okWide P W0 r b0 t v)
    (h : DataW.Trod enc P w 0 spare held t v d p) : ∃ a, VRel (inCx w) w a v ∧ elHas agg ts a ∧ a.tree = true := by
  unfold argTy at ht
  obtain ⟨us, h1, h2⟩ := map_some ht
  simp at h2; obtain ⟨rfl, rfl⟩ := h2
  obtain ⟨fuel, hf⟩ := h
  obtain ⟨as, a1, a2⟩ := cells_open 8 t us fuel _ _ h1 hf
  obtain ⟨q1, q2⟩ := hasL_ok a2
  cases hag : aggOf P t with
  | true =>
    have : ∃ cs, v = .agg cs := by
      unfold aggOf at hag
      unfold Value.okWide at hv
      split at hag
      · rename_i e; rw [e] at hv; exact ⟨_, hv.choose_spec.1⟩
      · rename_i e; rw [e] at hv; exact ⟨_, hv.choose_spec.1⟩
      · simp at hag
    obtain ⟨cs, rfl⟩ := this
    refine ⟨.agg as, by simp only [VRel]; exact ⟨cs, rfl, by simpa [Value.cells] using a1⟩, .inl ⟨rfl, as, rfl, a2⟩, by simp only [AV.tree]; exact q2⟩
  | false =>
    have hone := cellsTy_one h1 hag
    obtain ⟨u, rfl⟩ := List.length_eq_one_iff.1 hone
    obtain ⟨x1, rfl⟩ := List.length_eq_one_iff.1 ((hasL_length a2).trans hone)
    have hcv : v.cells.toList = [v] := by
      have hnot : ∀ cs, v ≠ .agg cs := by
        rintro cs rfl
        unfold cellsTy at h1
        unfold Value.okWide at hv
        split at h1
        · rename_i e; rw [e] at hv; simp [Cell.okWide, e, Cell.ok] at hv
        · rename_i e; rw [e] at hv; simp [Cell.okWide, e, Cell.ok] at hv
        · rename_i e; rw [e] at hv; simp [Cell.okWide, e, Cell.ok] at hv
        · rename_i e; rw [e] at hv; simp [Cell.okWide, e, Cell.ok] at hv
        · rename_i e; unfold aggOf at hag; rw [e] at hag; simp at hag
        · simp at h1
      cases v <;> first | rfl | exact absurd rfl (hnot _)
    rw [hcv] at a1
    simp only [VRels] at a1
    obtain ⟨y, ys, e, r1, _⟩ := a1
    simp at e; obtain ⟨rfl, _⟩ := e
    exact ⟨x1, r1, .inr ⟨rfl, a2⟩, by simpa [treeL] using q2⟩

end
end Go.Proofs.YtilbmpdeginabaaFw
