/- One operation, whichever. Conditions: none beside each theorem's own. -/
import Derived.Test.YtilbmpdeginabaaFw10
namespace Go.Proofs.YtilbmpdeginabaaFw
open Go Go.RowKit
set_option linter.unusedSimpArgs false
set_option linter.unusedVariables false

def opD (R : Sys) (io : AOp) (A : Fr) (st : St) : Option (AV × St) := opK R io A st fun v s => some (v, s)

theorem bind_bind {α β γ : Type} (x : Option α) (f : α → Option β) (g : β → Option γ) : (x.bind f).bind g = x.bind fun a => (f a).bind g := by cases x <;> rfl

theorem opK_bind {α : Type} (R : Sys) (io : AOp) (A : Fr) (st : St) (K : AV → St → Option α) : opK R io A st K = (opD R io A st).bind fun r => K r.1 r.2 := by
  cases io <;> simp only [opD, opK, bind_bind, Option.bind_some]
  case alloc => split <;> rfl
  case box => split <;> rfl
  case bslice => split <;> simp only [bind_bind, Option.bind_some, Option.bind_none]
  case mkslice =>
    split
    · split <;> rfl
    · rfl
  case call f as inl d => cases inl <;> simp only [cond_true, cond_false, bind_bind, Option.bind_some]
  case appn => split <;> simp only [bind_bind, Option.bind_some, Option.bind_none]
  all_goals rfl

theorem orBad_some {R : Sys} {x : Option AOp} {A : Fr} {st : St} {r : AV × St} (h : opD R (orBad x) A st = some r) : ∃ io, x = some io ∧ opD R io A st = some r := by
  cases x with
  | none => simp [orBad, opD, opK] at h
  | some io => exact ⟨io, rfl, h⟩

def InlSnd (P : Program) (inl : Nat → List AV → St → Option (AV × St)) : Prop :=
  ∀ f as st v st', inl f as st = some (v, st') → ∀ (c : Cx) (w : World) (base : Nat) (vals : Array Value), Sim c w st.H base → WS st → VRels c w as vals.toList → (∀ t, st.n ≤ t → t < st'.n → Free c t) →
    Calls P f vals w fun e w' => ∃ x c', e = .returned x ∧ Post c w base st.n st'.n c' w' ∧ Sim c' w' st'.H base ∧ VRel c' w' v x

def InlWS (inl : Nat → List AV → St → Option (AV × St)) : Prop := ∀ f as st v st', inl f as st = some (v, st') → WS st → WS st' ∧ st.n ≤ st'.n

structure SysOk (P : Program) (R : Sys) : Prop where
  call : CallSnd P R.call
  mono : CallMono R.call
  inl : InlSnd P R.inl
  ws : InlWS R.inl

section
variable {P : Program} {c : Cx} {w w' : World} {H : Nat → Option LArr} {base : Nat}

theorem map_od {A : Fr} {a : Act} (hA : ∀ t, VRel c w (A t) (a.tmps.getD t undef)) {xs : List Operand} {ys : List Opd} (h : mapM1 od xs = some ys) : VRels c w (ys.map (ev A)) (xs.map a.eval) := by
  obtain ⟨h1, h2⟩ := mapM1_some h
  refine VRels_of (by simp [h1]) (fun i x v hx hv => ?_)
  simp only [List.getElem?_map, Option.map_eq_some_iff] at hx hv
  obtain ⟨y, hy, rfl⟩ := hx
  obtain ⟨z, hz, rfl⟩ := hv
  exact od_rel hA (h2 i z y hz hy)

theorem odO_rel {A : Fr} {a : Act} (hA : ∀ t, VRel c w (A t) (a.tmps.getD t undef)) {x : Option Operand} {y : Option Opd} (h : odO x = some y) : BRel c w (y.map (ev A)) (x.map a.eval) := by
  cases x with
  | none => simp [odO] at h; subst h; trivial
  | some x =>
    simp only [odO] at h
    cases hx : od x with
    | none => simp [hx] at h
    | some z => simp [hx] at h; subst h; exact od_rel hA hx

/-- the machine's operation and the evaluator's, one beside the other -/
def Does (P : Program) (base : Nat) (c : Cx) (w : World) (o : Oper) (a : Act) (st st' : St) (v : AV) : Prop :=
  ∀ (next : Act → World → Prop) (Q : Exit → Act → World → Prop), (∀ c' w' x, Post c w base st.n st'.n c' w' → Sim c' w' st'.H base → VRel c' w' v x → next (a.put o.dst x) w') → o.upon P a next Q ((execOp a.eval o).run P w)

theorem Does.val {o : Oper} {a : Act} {st st' : St} {v : AV} {x : Value} {c' : Cx} (h : (execOp a.eval o).run P w = .ok (.value x) w') (hp : Post c w base st.n st'.n c' w') (hs : Sim c' w' st'.H base) (hv : VRel c' w' v x) : Does P base c w o a st st' v :=
  fun next Q K => by rw [h]; exact K c' w' x hp hs hv

/-- where nothing changes -/
theorem Does.pure {o : Oper} {a : Act} {st : St} {v : AV} {x : Value} (S : Sim c w st.H base) (h : (execOp a.eval o).run P w = .ok (.value x) w) (hv : VRel c w v x) : Does P base c w o a st st v :=
  Does.val h (Post.same _ _ _ _ _) S hv

theorem partsB_some {t : TypeId} : ∀ {ps : List (Nat × Operand)} {qs : List (Nat × Nat × Opd)}, partsB P t ps = some qs → ps.length = qs.length ∧ ∀ (k : Nat) (p : Nat × Operand) (q : Nat × Nat × Opd), ps[k]? = some p → qs[k]? = some q →
    (∃ f, fieldOf? P t p.1 = some f ∧ q.1 = f.offset ∧ q.2.1 = szOf P f.type) ∧ od p.2 = some q.2.2
  | [], qs, h => by simp [partsB] at h; subst h; simp
  | (i, x) :: ps, qs, h => by
    simp only [partsB] at h
    obtain ⟨f, h1, hA⟩ := bind_some h
    obtain ⟨y, h2, hB⟩ := bind_some hA
    cases h3 : partsB P t ps with
    | none => simp [h3] at hB
    | some r =>
      simp [h3] at hB; subst hB
      obtain ⟨k1, k2⟩ := partsB_some h3
      refine ⟨by simp [k1], fun k p q hp hq => ?_⟩
      cases k with
      | zero => simp at hp hq; subst hp; subst hq; exact ⟨⟨f, h1, rfl, rfl⟩, h2⟩
      | succ k => exact k2 k p q (by simpa using hp) (by simpa using hq)

theorem partsS_some : ∀ {ps : List (Nat × Operand)} {qs : List (Nat × Opd)}, partsS ps = some qs → ps.length = qs.length ∧ ∀ (k : Nat) (p : Nat × Operand) (q : Nat × Opd), ps[k]? = some p → qs[k]? = some q → p.1 = q.1 ∧ od p.2 = some q.2
  | [], qs, h => by simp [partsS] at h; subst h; simp
  | (i, x) :: ps, qs, h => by
    simp only [partsS] at h
    obtain ⟨y, h2, hB⟩ := bind_some h
    cases h3 : partsS ps with
    | none => simp [h3] at hB
    | some r =>
      simp [h3] at hB; subst hB
      obtain ⟨k1, k2⟩ := partsS_some h3
      refine ⟨by simp [k1], fun k p q hp hq => ?_⟩
      cases k with
      | zero => simp at hp hq; subst hp; subst hq; exact ⟨rfl, h2⟩
      | succ k => exact k2 k p q (by simpa using hp) (by simpa using hq)

theorem call_ok' {f : Nat} {args : Array Value} (h : callable P f = true) (W : World) : (callFunc f args).run P W = .ok (.enter f args) W := by
  unfold callable at h
  cases hf : P.funcs[f]? with
  | none => simp [hf] at h
  | some fn =>
    simp only [hf, Bool.and_eq_true, Bool.not_eq_true', beq_eq_false_iff_ne] at h
    obtain ⟨b, hb⟩ := Option.isSome_iff_exists.1 h.1
    simp [callFunc, hf, h.2, hb]

theorem isSt {t : TypeId} (h : isStruct P t = true) : ∃ fs, P.underlying t = some (.struct fs) ∧ ∀ f ∈ fs, szOk P f.type = true := by
  unfold isStruct at h
  split at h
  · rename_i fs hfs
    exact ⟨fs, hfs, fun f hf => by simpa using (Array.all_eq_true'.1 h) f hf⟩
  · simp at h

theorem run_places {fs : Array Field} (h : ∀ f ∈ fs, szOk P f.type = true) (W : World) : (fs.mapM (m := Sem) fun f => Prod.mk f.offset <$> sizeOf f.type).run P W = .ok (fs.map fun f => (f.offset, szOf P f.type)) W := by
  have key : ∀ l : List Field, (∀ f ∈ l, szOk P f.type = true) → (l.mapM (m := Sem) fun f => Prod.mk f.offset <$> sizeOf f.type).run P W = .ok (l.map fun f => (f.offset, szOf P f.type)) W := by
    intro l
    induction l with
    | nil => intro _; simp
    | cons f l ih =>
      intro h
      simp [List.mapM_cons, run_sizeOf' (h f (by simp)), ih (fun g hg => h g (by simp [hg]))]
  rw [Array.mapM_eq_mapM_toList]
  simp [key fs.toList (fun f hf => h f (by simpa using hf))]
  apply Array.ext'
  simp

theorem map_some {α β : Type} {x : Option α} {f : α → β} {r : β} (h : x.map f = some r) : ∃ a, x = some a ∧ f a = r := by
  cases x with
  | none => simp at h
  | some a => exact ⟨a, rfl, by simpa using h⟩

/-- an operation that only computes -/
theorem valD {x : Option AV} {st st' : St} {v : AV} (h : (x.bind fun v => some (v, st)) = some (v, st')) : x = some v ∧ st' = st := by
  obtain ⟨u, hu, h⟩ := bind_some h
  simp at h
  exact ⟨by rw [hu, h.1], h.2.symm⟩

/-- what is asked of one operation -/
def OpOk (P : Program) (base : Nat) (c : Cx) (w : World) (R : Sys) (o : Oper) (io : AOp) (A : Fr) (a : Act) (st : St) : Prop :=
  ∀ (v : AV) (st' : St), opD R io A st = some (v, st') → (∀ t, st.n ≤ t → t < st'.n → Free c t) → (∀ i a, i ≠ st.m → st.H i = some a → a.tag ≠ st.n) → (cls io = 2 → WS st) → Does P base c w o a st st' v

section
variable {R : Sys} {A : Fr} {a : Act} {st : St}

theorem ok_bad (o : Oper) : OpOk P base c w R o .bad A a st := fun v st' h => by simp [opD, opK] at h

theorem ok_orBad {o : Oper} {x : Option AOp} (h : ∀ io, x = some io → OpOk P base c w R o io A a st) : OpOk P base c w R o (orBad x) A a st := by
  cases x with
  | none => exact ok_bad o
  | some io => exact h io rfl

theorem aApp_n {s : Nat} {x y : AV} {st : St} {r : AV × St} (h : aApp s x y st = some r) : r.2.n = st.n + 1 := by
  unfold aApp at h
  obtain ⟨ys, h1, hA⟩ := bind_some h
  clear h
  obtain ⟨h2, h⟩ := if_some hA
  clear hA
  cases x with
  | nils =>
    simp at h
    obtain ⟨h3, rfl⟩ := h; rfl
  | lsl j tg s off len =>
    simp at h
    obtain ⟨h3, h⟩ := h
    obtain ⟨a, g, h⟩ := bind_some h
    obtain ⟨h4, h⟩ := if_some h
    simp at h
    rw [← h]
  | _ => simp at h

theorem op_ok (SO : SysOk P R) {h : Hint} {cur : Nat} (fr : Bool) (o : Oper) (hA : ∀ t, VRel c w (A t) (a.tmps.getD t undef)) (S : Sim c w st.H base) : OpOk P base c w R o (compOp P h cur fr o) A a st := by
  obtain ⟨dst, op, type, pos, after, guard⟩ := o
  cases op <;> simp only [compOp]
  case move x =>
    refine ok_orBad fun io h1 => ?_
    obtain ⟨y, hy, rfl⟩ := map_some h1
    intro v st' h2 _ _ _
    simp [opD, opK] at h2
    obtain ⟨rfl, rfl⟩ := h2
    exact Does.pure S (by simp [execOp]) (od_rel hA hy)
  case assign x =>
    refine ok_orBad fun io h1 => ?_
    obtain ⟨y, hy, rfl⟩ := map_some h1
    intro v st' h2 _ _ _
    simp [opD, opK] at h2
    obtain ⟨rfl, rfl⟩ := h2
    exact Does.pure S (by simp [execOp]) (od_rel hA hy)
  case pick x y z =>
    refine ok_orBad fun io h1 => ?_
    obtain ⟨x', hx, h1⟩ := bind_some h1
    obtain ⟨y', hy, h1⟩ := bind_some h1
    obtain ⟨z', hz, rfl⟩ := map_some h1
    intro v st' h2 _ _ _
    obtain ⟨h3, rfl⟩ := valD h2
    have rx := od_rel hA hx
    cases e : ev A x' <;> rw [e] at h3 rx <;> simp only [aPick] at h3
    case bool b =>
      simp only [VRel] at rx
      simp at h3
      cases b <;> simp at h3 <;> subst h3
      · exact Does.pure S (x := a.eval z) (by simp [execOp, rx, asBool]) (od_rel hA hz)
      · exact Does.pure S (x := a.eval y) (by simp [execOp, rx, asBool]) (od_rel hA hy)
    all_goals simp at h3
  case alloc t =>
    refine ok_orBad fun io h1 => ?_
    obtain ⟨e, hz, rfl⟩ := map_some h1
    intro v st' h2 F hNo _
    simp only [opD, opK] at h2
    obtain ⟨⟨q1, q2⟩, h3⟩ := if_some h2
    simp at h3; obtain ⟨rfl, rfl⟩ := h3
    obtain ⟨r, c', w', k1, k2, k3, k4⟩ := run_alloc (j := st.m) hz q2 S (F st.n (Nat.le_refl _) (Nat.lt_succ_self _)) hNo
    exact Does.val (x := r) (by simp [execOp, k1]) k2 k3 k4
  case box t x =>
    refine ok_orBad fun io h1 => ?_
    obtain ⟨y, hy, rfl⟩ := map_some h1
    intro v st' h2 F hNo _
    simp only [opD, opK] at h2
    obtain ⟨⟨q1, q2⟩, h3⟩ := if_some h2
    simp at h3; obtain ⟨rfl, rfl⟩ := h3
    obtain ⟨r, c', w', k1, k2, k3, k4⟩ := run_box (P := P) (t := t) (j := st.m) (od_rel hA hy) q1 q2 S (F st.n (Nat.le_refl _) (Nat.lt_succ_self _)) hNo
    exact Does.val (x := r) (by simp [execOp, k1]) k2 k3 k4
  case build t ps =>
    cases hs : isStruct P t with
    | false => exact ok_bad _
    | true =>
      refine ok_orBad fun io h1 => ?_
      obtain ⟨z, hz, h1⟩ := bind_some h1
      obtain ⟨qs, hp, rfl⟩ := map_some h1
      intro v st' h2 _ _ _
      simp only [opD, opK] at h2
      obtain ⟨cs, hc, h3⟩ := bind_some h2
      simp at h3; obtain ⟨rfl, rfl⟩ := h3
      obtain ⟨fs, f1, f2⟩ := isSt hs
      obtain ⟨i, zv, g1, g2, g3, g4, g5⟩ := zero_ok hz
      obtain ⟨r1, r2⟩ := avOf_rel (c := c) (w := w) g3
      obtain ⟨p1, p2⟩ := partsB_some hp
      obtain ⟨r3, _, _⟩ := cells_rel r1 r2
      obtain ⟨vs', k1, k2⟩ := fill_build (c := c) (w := w) (ρ := ev A) (place := fun i => (fs.map fun f => (f.offset, szOf P f.type))[i]?) qs (ps.toList.map (·.1)) (ps.toList.map fun p => a.eval p.2) _ zv.cells cs (by simp [p1]) (by simp [p1])
        (fun k i q h1 h2 => by
          rw [List.getElem?_map, Option.map_eq_some_iff] at h1
          obtain ⟨p, hp1, rfl⟩ := h1
          obtain ⟨⟨f, hf, e1, e2⟩, _⟩ := p2 k p q hp1 h2
          obtain ⟨fs', u1, u2, _⟩ := field_ok hf
          rw [f1] at u1; simp at u1; subst u1
          rw [Array.getElem?_map, u2]
          simp [e1, e2])
        (fun k q x h1 h2 => by
          rw [List.getElem?_map, Option.map_eq_some_iff] at h2
          obtain ⟨p, hp1, rfl⟩ := h2
          exact od_rel hA (p2 k p q hp1 h1).2) r3 hc
      have hzip : (ps.map fun p => (p.1, a.eval p.2)).toList = (ps.toList.map (·.1)).zip (ps.toList.map fun p => a.eval p.2) := by
        rw [Array.toList_map, List.zip_map', ]
      refine Does.pure S (x := .agg vs') ?_ (by simp only [VRel]; exact ⟨vs', rfl, k2⟩)
      have hpl := run_places (P := P) f2 w
      rw [← hzip] at k1
      simp [execOp, Instr.build, zeroValue, typeInfo, g1, g2, run_underlying f1, hpl]
      simp only [Array.toList_map, Array.getElem?_map] at k1
      simp [k1]
  case buildSlice t len ps =>
    refine ok_orBad fun io h1 => ?_
    obtain ⟨e, he, h1⟩ := bind_some h1
    obtain ⟨z, hz, h1⟩ := bind_some h1
    obtain ⟨hlen, h1⟩ := if_some h1
    obtain ⟨qs, hp, rfl⟩ := map_some h1
    intro v st' h2 F hNo _
    simp only [opD, opK] at h2
    obtain ⟨⟨y1, y2, y3⟩, h3⟩ := if_some h2
    obtain ⟨es, hc, h4⟩ := bind_some h3
    simp at h4; obtain ⟨rfl, rfl⟩ := h4
    obtain ⟨p1, p2⟩ := partsS_some hp
    have hmap1 : ps.toList.map (·.1) = qs.map (·.1) := by
      apply List.ext_getElem?
      intro k
      rw [List.getElem?_map, List.getElem?_map]
      by_cases hk : k < ps.toList.length
      · have hk' : k < qs.length := by rw [← p1]; exact hk
        rw [List.getElem?_eq_getElem hk, List.getElem?_eq_getElem hk']
        simp only [Option.map_some]
        rw [(p2 k _ _ (List.getElem?_eq_getElem hk) (List.getElem?_eq_getElem hk')).1]
      · rw [List.getElem?_eq_none (by omega), List.getElem?_eq_none (by omega)]; rfl
    obtain ⟨r, c', w', k1, k2, k3, k4⟩ := run_bslice (c := c) (w := w) (j := st.m) (ρ := ev A) (ps := qs) (pv := ps.map fun p => (p.1, a.eval p.2)) (xs := ps.toList.map fun p => a.eval p.2) he hz hlen (by simp [p1])
      (fun k q x h1 h2 => by
        rw [List.getElem?_map, Option.map_eq_some_iff] at h2
        obtain ⟨p, hp1, rfl⟩ := h2
        exact od_rel hA (p2 k p q hp1 h1).2)
      (by rw [← hmap1, Array.toList_map, List.zip_map']) hc (by rw [fillSlice_length hc]; simp) S (F st.n (Nat.le_refl _) (Nat.lt_succ_self _)) hNo
    exact Does.val (x := r) (by simp [execOp, k1]) k2 k3 k4
  case load t x =>
    cases ht : szOk P t with
    | false => exact ok_bad _
    | true =>
      refine ok_orBad fun io h1 => ?_
      obtain ⟨y, hy, rfl⟩ := map_some h1
      intro v st' h2 _ _ _
      obtain ⟨h3, rfl⟩ := valD h2
      obtain ⟨r, k1, k2⟩ := run_load' S rfl ht (od_rel hA hy) h3
      exact Does.pure S (x := r) (by simp [execOp, k1]) k2
  case store t x y =>
    cases ht : szOk P t with
    | false => exact ok_bad _
    | true =>
      refine ok_orBad fun io h1 => ?_
      obtain ⟨x', hx, h1⟩ := bind_some h1
      obtain ⟨y', hy, rfl⟩ := map_some h1
      intro v st' h2 _ _ _
      simp only [opD, opK] at h2
      obtain ⟨st2, h3, h4⟩ := bind_some h2
      simp at h4; obtain ⟨rfl, rfl⟩ := h4
      obtain ⟨w', k1, k2, k3, k4, k5, k6⟩ := run_store' ht (od_rel hA hx) (od_rel hA hy) S h3
      intro next Q K
      have : (execOp a.eval { dst := dst, op := .store t x y, type := type, pos := pos, after := after, guard := guard }).run P w = .ok .skip w' := by simp [execOp, k1]
      rw [this]
      exact K c w' undef ⟨k2, k3, fun _ _ => ⟨rfl, Iff.rfl, Iff.rfl⟩, fun _ h _ => .inl h⟩ k4 (by simp only [VRel]; exact ⟨#[], rfl, by simp [VRels]⟩)
  case nilCheck x =>
    refine ok_orBad fun io h1 => ?_
    obtain ⟨y, hy, rfl⟩ := map_some h1
    intro v st' h2 _ _ _
    obtain ⟨h3, rfl⟩ := valD h2
    obtain ⟨ad, k1, k2⟩ := run_nilchk (od_rel hA hy) h3
    exact Does.pure S (x := a.eval x) (by simp [execOp, k1]) k2
  case binOp bop t x y t' =>
    have ints : OpOk P base c w R { dst := dst, op := .binOp bop t x y t', type := type, pos := pos, after := after, guard := guard } (orBad ((od x).bind fun x => (od y).map fun y => .bin bop x y)) A a st := by
      refine ok_orBad fun io h1 => ?_
      obtain ⟨x', hx, h1⟩ := bind_some h1
      obtain ⟨y', hy, rfl⟩ := map_some h1
      intro v st' h2 _ _ _
      obtain ⟨h3, rfl⟩ := valD h2
      obtain ⟨r, k1, k2⟩ := run_bin (P := P) (t := t) (ox := x) (oy := y) (od_rel hA hx) (od_rel hA hy) h3
      exact Does.pure S (x := r) (by simp only [execOp, Sem.run_bind, k1]; rfl) k2
    cases ht : P.underlying t with
    | none => exact ok_bad _
    | some d =>
      cases d with
      | bool =>
        refine ok_orBad fun io h1 => ?_
        obtain ⟨x', hx, h1⟩ := bind_some h1
        obtain ⟨y', hy, rfl⟩ := map_some h1
        intro v st' h2 _ _ _
        obtain ⟨h3, rfl⟩ := valD h2
        obtain ⟨r, k1, k2⟩ := run_binb (P := P) (ox := x) (oy := y) ht (od_rel hA hx) (od_rel hA hy) h3
        exact Does.pure S (x := r) (by simp only [execOp, Sem.run_bind, k1]; rfl) k2
      | int k => exact ints
      | string => exact ints
      | _ => exact ok_bad _
  case unOp uop t x =>
    refine ok_orBad fun io h1 => ?_
    obtain ⟨y, hy, rfl⟩ := map_some h1
    intro v st' h2 _ _ _
    obtain ⟨h3, rfl⟩ := valD h2
    obtain ⟨r, k1, k2⟩ := run_un (P := P) (od_rel hA hy) h3
    exact Does.pure S (x := r) (by simp [execOp, k1]) k2
  case convert s d x =>
    cases hs : P.underlying s with
    | none => exact ok_bad _
    | some ds =>
      cases hd : P.underlying d with
      | none => cases ds <;> exact ok_bad _
      | some dd =>
        cases ds with
        | int k' =>
          cases dd with
          | int k =>
            refine ok_orBad fun io h1 => ?_
            obtain ⟨y, hy, rfl⟩ := map_some h1
            intro v st' h2 _ _ _
            obtain ⟨h3, rfl⟩ := valD h2
            obtain ⟨r, k1, k2⟩ := run_conv (P := P) hs hd (od_rel hA hy) h3
            exact Does.pure S (x := r) (by simp [execOp, k1]) k2
          | _ => exact ok_bad _
        | slice e =>
          cases dd with
          | string =>
            simp only
            cases he : P.underlying e with
            | none => exact ok_bad _
            | some de =>
              cases de with
              | int k =>
                cases k with
                | u8 =>
                  refine ok_orBad fun io h1 => ?_
                  obtain ⟨y, hy, rfl⟩ := map_some h1
                  intro v st' h2 _ _ _
                  obtain ⟨h3, rfl⟩ := valD h2
                  obtain ⟨r, k1, k2⟩ := run_b2s (P := P) hs he hd (od_rel hA hy) S h3
                  exact Does.pure S (x := r) (by simp [execOp, k1]) k2
                | _ => exact ok_bad _
              | _ => exact ok_bad _
          | _ => exact ok_bad _
        | _ => exact ok_bad _
  case makeSlice t l cp =>
    refine ok_orBad fun io h1 => ?_
    obtain ⟨e, he, h1⟩ := bind_some h1
    obtain ⟨z, hz, h1⟩ := bind_some h1
    obtain ⟨l', hl, h1⟩ := bind_some h1
    obtain ⟨c', hc, rfl⟩ := map_some h1
    intro v st' h2 F hNo _
    simp only [opD, opK] at h2
    have rl := od_rel hA hl
    have rc := od_rel hA hc
    split at h2
    · rename_i l cp e1 e2
      rw [e1] at rl; rw [e2] at rc
      obtain ⟨⟨q1, q2, q3, q4, q5, q6⟩, h3⟩ := if_some h2
      simp at h3; obtain ⟨rfl, rfl⟩ := h3
      obtain ⟨r, c', w', k1, k2, k3, k4⟩ := run_mkslice (j := st.m) he hz rl rc q1 q2 q3 S (F st.n (Nat.le_refl _) (Nat.lt_succ_self _)) hNo
      exact Does.val (x := r) (by simp [execOp, k1]) k2 k3 k4
    · simp at h2
  case slice t x lo hi mx =>
    cases mx with
    | some m => exact ok_bad _
    | none =>
      simp only
      cases ht : P.underlying t with
      | none => exact ok_bad _
      | some d =>
        cases d with
        | string =>
          refine ok_orBad fun io h1 => ?_
          obtain ⟨x', hx, h1⟩ := bind_some h1
          obtain ⟨lo', hlo, h1⟩ := bind_some h1
          obtain ⟨hi', hhi, rfl⟩ := map_some h1
          intro v st' h2 _ _ _
          obtain ⟨h3, rfl⟩ := valD h2
          obtain ⟨r, k1, k2⟩ := run_sslc (P := P) ht (od_rel hA hx) (odO_rel hA hlo) (odO_rel hA hhi) h3
          exact Does.pure S (x := r) (by simp [execOp, k1]) k2
        | slice e' =>
          refine ok_orBad fun io h1 => ?_
          obtain ⟨e, he, h1⟩ := bind_some h1
          obtain ⟨x', hx, h1⟩ := bind_some h1
          obtain ⟨lo', hlo, h1⟩ := bind_some h1
          obtain ⟨hi', hhi, rfl⟩ := map_some h1
          intro v st' h2 _ _ _
          obtain ⟨h3, rfl⟩ := valD h2
          obtain ⟨r, k1, k2⟩ := run_slc (P := P) he (od_rel hA hx) (odO_rel hA hlo) (odO_rel hA hhi) h3
          exact Does.pure S (x := r) (by simp [execOp, k1]) k2
        | _ => exact ok_bad _
  case fieldAddr t x f =>
    refine ok_orBad fun io h1 => ?_
    obtain ⟨fd, hf, h1⟩ := bind_some h1
    obtain ⟨y, hy, rfl⟩ := map_some h1
    intro v st' h2 _ _ _
    obtain ⟨h3, rfl⟩ := valD h2
    obtain ⟨r, k1, k2⟩ := run_faddr hf (od_rel hA hy) h3
    exact Does.pure S (x := r) (by simp [execOp, k1]) k2
  case field t x f =>
    refine ok_orBad fun io h1 => ?_
    obtain ⟨fd, hf, h1⟩ := bind_some h1
    obtain ⟨y, hy, rfl⟩ := map_some h1
    intro v st' h2 _ _ _
    obtain ⟨h3, rfl⟩ := valD h2
    obtain ⟨r, k1, k2⟩ := run_field hf (od_rel hA hy) h3
    exact Does.pure S (x := r) (by simp [execOp, k1]) k2
  case indexAddr t x i =>
    have slices : OpOk P base c w R { dst := dst, op := .indexAddr t x i, type := type, pos := pos, after := after, guard := guard } (orBad ((elemOf? P t).bind fun e => (od x).bind fun x => (od i).map fun i => .iaddr (szOf P e) x i)) A a st := by
      refine ok_orBad fun io h1 => ?_
      obtain ⟨e, he, h1⟩ := bind_some h1
      obtain ⟨x', hx, h1⟩ := bind_some h1
      obtain ⟨i', hi, rfl⟩ := map_some h1
      intro v st' h2 _ _ _
      obtain ⟨h3, rfl⟩ := valD h2
      obtain ⟨r, k1, k2⟩ := run_iaddr (P := P) he (od_rel hA hx) (od_rel hA hi) h3
      exact Does.pure S (x := r) (by simp [execOp, k1]) k2
    cases ht : P.underlying t with
    | none => exact slices
    | some d =>
      cases d with
      | array len e =>
        simp only
        cases hb : (szOk P e && Nat.blt 1 len) with
        | false => exact ok_bad _
        | true =>
          simp only [Bool.and_eq_true] at hb
          refine ok_orBad fun io h1 => ?_
          obtain ⟨x', hx, h1⟩ := bind_some h1
          obtain ⟨i', hi, rfl⟩ := map_some h1
          intro v st' h2 _ _ _
          obtain ⟨h3, rfl⟩ := valD h2
          obtain ⟨r, k1, k2⟩ := run_aidx (P := P) ht hb.1 (Nat.le_of_ble_eq_true hb.2) (od_rel hA hx) (od_rel hA hi) h3
          exact Does.pure S (x := r) (by simp [execOp, k1]) k2
      | _ => exact slices
  case index t x i =>
    cases ht : P.underlying t with
    | none => exact ok_bad _
    | some d =>
      cases d with
      | string =>
        refine ok_orBad fun io h1 => ?_
        obtain ⟨x', hx, h1⟩ := bind_some h1
        obtain ⟨i', hi, rfl⟩ := map_some h1
        intro v st' h2 _ _ _
        obtain ⟨h3, rfl⟩ := valD h2
        obtain ⟨r, k1, k2⟩ := run_sidx (P := P) ht (od_rel hA hx) (od_rel hA hi) h3
        exact Does.pure S (x := r) (by simp [execOp, k1]) k2
      | array len e =>
        simp only
        cases hb : szOk P e with
        | false => exact ok_bad _
        | true =>
          refine ok_orBad fun io h1 => ?_
          obtain ⟨x', hx, h1⟩ := bind_some h1
          obtain ⟨i', hi, rfl⟩ := map_some h1
          intro v st' h2 _ _ _
          obtain ⟨h3, rfl⟩ := valD h2
          obtain ⟨r, k1, k2⟩ := run_vidx (P := P) ht hb (od_rel hA hx) (od_rel hA hi) h3
          exact Does.pure S (x := r) (by simp [execOp, k1]) k2
      | _ => exact ok_bad _
  case extract x i =>
    refine ok_orBad fun io h1 => ?_
    obtain ⟨y, hy, rfl⟩ := map_some h1
    intro v st' h2 _ _ _
    obtain ⟨h3, rfl⟩ := valD h2
    obtain ⟨r, k1, k2⟩ := run_extr (P := P) (od_rel hA hy) h3
    exact Does.pure S (x := r) (by simp [execOp, k1]) k2
  case call cl =>
    obtain ⟨callee, args, argTypes⟩ := cl
    simp only [compCall]
    cases callee with
    | invoke r m => exact ok_bad _
    | value f =>
      cases f with
      | func f =>
        simp only
        cases hf : callable P f with
        | false => exact ok_bad _
        | true =>
          refine ok_orBad fun io h1 => ?_
          obtain ⟨ys, hy, rfl⟩ := map_some h1
          intro v st' h2 F hNo hW
          have hargs : VRels c w (ys.map (ev A)) (args.map a.eval).toList := by simpa using map_od hA hy
          have hrun : (execOp a.eval { dst := dst, op := .call { callee := .value (.func f), args := args, argTypes := argTypes }, type := type, pos := pos, after := after, guard := guard }).run P w = .ok (.enter f (args.map a.eval)) w := by
            simp [execOp, resolve, Act.eval, Deferred.ofValue, invoke]
            exact call_ok' hf w
          intro next Q K
          rw [hrun]
          simp only [opD, opK] at h2
          cases hi : h.inl f with
          | true =>
            simp only [hi, cond_true] at h2
            obtain ⟨r, h3, h4⟩ := bind_some h2
            simp at h4; obtain ⟨rfl, rfl⟩ := h4
            refine (SO.inl f _ st r.1 r.2 h3 c w base _ S (hW (by simp [cls, hi])) hargs F).mono ?_
            rintro e w' ⟨x, c', rfl, k1, k2, k3⟩
            exact K c' w' x k1 k2 k3
          | false =>
            simp only [hi, cond_false] at h2
            obtain ⟨r, h3, h4⟩ := bind_some h2
            simp at h4; obtain ⟨rfl, rfl⟩ := h4
            refine (clV_ok SO.call SO.mono S hargs h3 F (fun hd => hW (by
              have : Nat.beq ((dst.map (h.thaw cur)).getD 0) 0 = false := by
                cases e : Nat.beq ((dst.map (h.thaw cur)).getD 0) 0 with
                | false => rfl
                | true => exact absurd (Nat.eq_of_beq_eq_true e) hd
              simp [cls, hi, this]))).mono ?_
            rintro e w' ⟨x, c', rfl, k1, k2, k3, _⟩
            exact K c' w' x k1 k2 k3
      | _ => exact ok_bad _
    | builtin b =>
      have toArr : ∀ {α : Type} {xs : Array α} {l : List α}, xs.toList = l → xs = l.toArray := fun h => by rw [← h]
      simp only
      cases b <;> first | exact ok_bad _ | skip
      case append =>
        simp only
        unfold compAppend
        split
        · rename_i x y t t' e1 e2
          rw [toArr e1, toArr e2]
          refine ok_orBad fun io h1 => ?_
          obtain ⟨e, he, h1⟩ := bind_some h1
          cases ht' : P.underlying t' with
          | none => simp [ht'] at h1
          | some d' =>
            cases d' with
            | slice e' =>
              simp only [ht'] at h1
              obtain ⟨z, hz, h1⟩ := bind_some h1
              obtain ⟨x', hx, h1⟩ := bind_some h1
              obtain ⟨y', hy, rfl⟩ := map_some h1
              cases fr with
              | false =>
                intro v st' h2 F hNo hW
                simp only [cond_false, opD, opK] at h2
                obtain ⟨r, h3, h4⟩ := bind_some h2
                simp at h4; obtain ⟨rfl, rfl⟩ := h4
                have W := hW rfl
                have hn : r.2.n = st.n + 1 := aApp_n h3
                obtain ⟨q, c', w', k1, k2, k3, k4, _⟩ := run_app (c := c) (ty := type) S he ht' hz (od_rel hA hx) (od_rel hA hy) h3 (F st.n (Nat.le_refl _) (by omega)) hNo (.inr fun i b hb => Nat.ne_of_lt (W i b hb).1)
                refine Does.val (x := q) ?_ (by rw [hn]; exact k2) k3 k4
                simp [execOp, resolve, invoke, builtin, k1]
              | true =>
                intro v st' h2 F hNo hW
                simp only [cond_true, opD, opK] at h2
                have rx := od_rel hA hx
                split at h2
                · rename_i e1
                  rw [e1] at rx
                  obtain ⟨r, h3, h4⟩ := bind_some h2
                  simp at h4; obtain ⟨rfl, rfl⟩ := h4
                  have hn : r.2.n = st.n + 1 := aApp_n h3
                  obtain ⟨q, c', w', k1, k2, k3, k4, _⟩ := run_app (c := c) (ty := type) S he ht' hz rx (od_rel hA hy) h3 (F st.n (Nat.le_refl _) (by omega)) hNo (.inl rfl)
                  refine Does.val (x := q) ?_ (by rw [hn]; exact k2) k3 k4
                  simp [execOp, resolve, invoke, builtin, k1]
                · simp at h2
            | _ => simp [ht'] at h1
        · exact ok_bad _
      case len =>
        simp only
        unfold compLen
        split
        · rename_i x t e1 e2
          rw [toArr e1, toArr e2]
          refine ok_orBad fun io h1 => ?_
          cases ht : P.underlying t with
          | none => simp [ht] at h1
          | some d =>
            cases d with
            | string =>
              simp only [ht] at h1
              obtain ⟨y, hy, rfl⟩ := map_some h1
              intro v st' h2 _ _ _
              obtain ⟨h3, rfl⟩ := valD h2
              obtain ⟨r, k1, k2⟩ := run_slen (P := P) (ty := type) (t := t) ht (od_rel hA hy) h3
              exact Does.pure S (x := r) (by simp [execOp, resolve, invoke, builtin, k1]) k2
            | slice e =>
              simp only [ht] at h1
              obtain ⟨y, hy, rfl⟩ := map_some h1
              intro v st' h2 _ _ _
              obtain ⟨h3, rfl⟩ := valD h2
              obtain ⟨r, k1, k2⟩ := run_len (P := P) (ty := type) (t := t) ht (od_rel hA hy) h3
              exact Does.pure S (x := r) (by simp [execOp, resolve, invoke, builtin, k1]) k2
            | _ => simp [ht] at h1
        · exact ok_bad _
      case max =>
        simp only
        unfold compMx
        split
        · rename_i x y ts e1
          rw [toArr e1]
          refine ok_orBad fun io h1 => ?_
          obtain ⟨x', hx, h1⟩ := bind_some h1
          obtain ⟨y', hy, rfl⟩ := map_some h1
          intro v st' h2 _ _ _
          obtain ⟨h3, rfl⟩ := valD h2
          obtain ⟨r, k1, k2⟩ := run_mx (P := P) (ts := argTypes) (t := type) (od_rel hA hx) (od_rel hA hy) h3
          exact Does.pure S (x := r) (by simp [execOp, resolve, invoke, builtin, k1]) k2
        · exact ok_bad _
      case min =>
        simp only
        unfold compMn
        split
        · rename_i x y ts e1
          rw [toArr e1]
          refine ok_orBad fun io h1 => ?_
          obtain ⟨x', hx, h1⟩ := bind_some h1
          obtain ⟨y', hy, rfl⟩ := map_some h1
          intro v st' h2 _ _ _
          obtain ⟨h3, rfl⟩ := valD h2
          obtain ⟨r, k1, k2⟩ := run_mn (P := P) (ts := argTypes) (t := type) (od_rel hA hx) (od_rel hA hy) h3
          exact Does.pure S (x := r) (by simp [execOp, resolve, invoke, builtin, k1]) k2
        · exact ok_bad _
  all_goals exact ok_bad _

/-- a world with one block more -/
theorem Sim_alloc (S : Sim c w H base) (o : Obj) : Ex c w c (w.alloc o) ∧ Sim c (w.alloc o) H base := by
  have X : Ex c w c (w.alloc o) := ⟨rfl, fun _ h => ⟨h, rfl⟩, fun _ h => ⟨h, rfl⟩, fun b hb q => cell_of_block (alloc_old w o (S.im b hb)) q⟩
  refine ⟨X, S.n0, by have := S.hb; simp; omega, fun b hb => by have := S.im b hb; simp; omega, S.vinj, S.vb, fun t ht hc => ?_, S.pos, S.dis, fun j a ha hr => ?_, S.inj⟩
  · obtain ⟨cs, e, h1, h2⟩ := S.vblk t ht hc
    exact ⟨cs, e, by rw [alloc_old w o (S.im _ (.inr ⟨t, ht, hc, rfl⟩))]; exact h1, h2⟩
  · have ho := S.arr j a ha hr
    refine ⟨ho.s, ho.pos, ho.len, fun hc => ?_⟩
    obtain ⟨b1, b2, ⟨cs, e, b3, b4⟩, b5⟩ := ho.blk hc
    have hlt := ho.lt hc
    exact ⟨b1, b2, ⟨cs, e, by rw [alloc_old w o hlt]; exact b3, b4⟩, ERel_own X (fun q => cell_of_block (alloc_old w o hlt) q) b5⟩

theorem nil_ok (o : Oper) (S : Sim c w st.H base) : OpOk P base c w R o (compNil P o) A a st := by
  obtain ⟨dst, op, type, pos, after, guard⟩ := o
  cases op <;> simp only [compNil]
  case buildSlice t len ps =>
    cases hb : (Nat.beq len 0 && Nat.beq ps.size 0 && (match elemOf? P t with | some _ => true | _ => false)) with
    | false => exact ok_bad _
    | true =>
      simp only [Bool.and_eq_true] at hb
      intro v st' h2 _ _ _
      simp [opD, opK, ev] at h2
      obtain ⟨rfl, rfl⟩ := h2
      obtain ⟨⟨h1, h3⟩, h4⟩ := hb
      have hl := Nat.eq_of_beq_eq_true h1
      have hp := Nat.eq_of_beq_eq_true h3
      subst hl
      have hps : ps = #[] := Array.eq_empty_of_size_eq_zero hp
      subst hps
      cases he : elemOf? P t with
      | none => simp [he] at h4
      | some e =>
        obtain ⟨i, d, u1, u2, u3, u4, u5, u6, u7⟩ := elem_ok he
        obtain ⟨X, S'⟩ := Sim_alloc S (.cells #[] e)
        refine Does.val (x := .slice (some ⟨w.heap.size, 0, none⟩) 0 0) (c' := c) (w' := w.alloc (.cells #[] e)) ?_ ⟨X, (Below.refl _ _).alloc S.hb _, fun _ _ => ⟨rfl, Iff.rfl, Iff.rfl⟩, fun _ h _ => .inl h⟩ S' (by simp only [VRel]; exact ⟨_, rfl⟩)
        simp [execOp, Instr.buildSlice, run_underlying u1, sizeOf, typeInfo, u2, newRow, Array.range_zero', Instr.fill]
  all_goals exact ok_bad _

theorem op_ok' (SO : SysOk P R) {h : Hint} {cur : Nat} (ops : Array Oper) (o : Oper) (hA : ∀ t, VRel c w (A t) (a.tmps.getD t undef)) (S : Sim c w st.H base) : OpOk P base c w R o (compOp' P h cur ops o) A a st := by
  unfold compOp'
  cases feeds ops o with
  | true => exact nil_ok o S
  | false => exact op_ok SO _ o hA S

end
end
end Go.Proofs.YtilbmpdeginabaaFw
