/- The operations that only read: what the machine's operation gives is what the evaluator's gives. Conditions: none beside each theorem's own. -/
import Derived.Test.YtilbmpdeginabaaFw3
import Derived.Laws.Small
import Derived.Laws.Slices
namespace Go.Proofs.YtilbmpdeginabaaFw
open Go Go.RowKit
set_option linter.unusedSimpArgs false
set_option linter.unusedVariables false

structure ArrOk (c : Cx) (w : World) (base : Nat) (a : LArr) : Prop where
  s : (c.T a.tag).s = a.s
  pos : a.s ≠ 0
  len : a.es.length ≤ (c.T a.tag).cap
  blk : (c.T a.tag).cap ≠ 0 → base ≤ (c.T a.tag).blk ∧ ¬ c.Im (c.T a.tag).blk ∧
    (∃ cs e, w.heap[(c.T a.tag).blk]? = some (.cells cs e (0, 0)) ∧ cs.size = (c.T a.tag).cap * a.s) ∧ ERel c w a.s a.es (c.T a.tag).blk 0

structure Sim (c : Cx) (w : World) (H : Nat → Option LArr) (base : Nat) : Prop where
  n0 : c.N0 ≤ base
  hb : base ≤ w.heap.size
  im : ∀ b, c.Im b → b < w.heap.size
  vinj : ∀ t u, c.Vd t → c.Vd u → (c.T t).cap ≠ 0 → (c.T u).cap ≠ 0 → (c.T t).blk = (c.T u).blk → t = u
  vb : ∀ t, c.Vd t → (c.T t).cap ≠ 0 → c.N0 ≤ (c.T t).blk
  vblk : ∀ t, c.Vd t → (c.T t).cap ≠ 0 → ∃ cs e, w.heap[(c.T t).blk]? = some (.cells cs e (0, 0)) ∧ cs.size = (c.T t).cap * (c.T t).s
  pos : ∀ t, (c.Rz t ∨ c.Vd t) → t ≠ 0
  dis : ∀ t, c.Rz t → ¬ c.Vd t
  arr : ∀ j a, H j = some a → c.Rz a.tag → ArrOk c w base a
  inj : ∀ j j' a a', H j = some a → H j' = some a' → c.Rz a.tag → c.Rz a'.tag → (c.T a.tag).cap ≠ 0 → (c.T a'.tag).cap ≠ 0 → (c.T a.tag).blk = (c.T a'.tag).blk → j = j'

theorem get_some {st : St} {j t : Nat} {a : LArr} (h : st.get j t = some a) : st.H j = some a ∧ a.tag = t := by
  unfold St.get at h
  split at h
  · split at h
    · simp at h; subst h; exact ⟨by assumption, by assumption⟩
    · simp at h
  · simp at h

theorem bind_some {α β : Type} {x : Option α} {f : α → Option β} {r : β} (h : x.bind f = some r) : ∃ a, x = some a ∧ f a = some r := by
  cases x with
  | none => simp at h
  | some a => exact ⟨a, rfl, h⟩

theorem if_some {α : Type} {p : Prop} [Decidable p] {x : Option α} {r : α} (h : (if p then x else none) = some r) : p ∧ x = some r := by
  split at h
  · exact ⟨by assumption, h⟩
  · simp at h

section
variable {P : Program} {c : Cx} {w : World} {H : Nat → Option LArr} {base : Nat}

theorem sz_ok {t : TypeId} (h : szOk P t = true) : ∃ i d, P.info? t = some i ∧ P.underlying t = some d ∧ szOf P t = i.size := by
  unfold szOk at h
  simp only [Bool.and_eq_true, Option.isSome_iff_exists] at h
  obtain ⟨⟨i, hi⟩, ⟨d, hd⟩⟩ := h
  exact ⟨i, d, hi, hd, by simp [szOf, Program.cellsOf, hi]⟩

theorem run_isAgg' {t : TypeId} (h : szOk P t = true) : (isAgg t).run P w = .ok (aggOf P t) w := by
  obtain ⟨i, d, hi, hd, _⟩ := sz_ok h
  simp [isAgg, run_underlying hd, aggOf, hd]
  cases d <;> rfl

theorem run_sizeOf' {t : TypeId} (h : szOk P t = true) : (sizeOf t).run P w = .ok (szOf P t) w := by
  obtain ⟨i, d, hi, hd, hs⟩ := sz_ok h
  simp [sizeOf, typeInfo, hi, hs]

theorem VRels_append {as bs : List AV} {vs us : List Value} (h : VRels c w as vs) (k : VRels c w bs us) : VRels c w (as ++ bs) (vs ++ us) := by
  induction as generalizing vs with
  | nil => simp only [VRels] at h; subst h; simpa using k
  | cons a as ih =>
    simp only [VRels, List.cons_append] at h ⊢
    obtain ⟨x, xs, rfl, h1, h2⟩ := h
    exact ⟨x, xs ++ us, rfl, h1, ih h2⟩

/-- a variable's value, read -/
theorem run_ld {t : TypeId} (ht : szOk P t = true) {cs : List AV} {b o : Nat} (hc : CRel c w cs b o) {v : AV} (h : ldCells (aggOf P t) (szOf P t) cs = some v) :
    ∃ y, (loadVar t ⟨b, o, none⟩).run P w = .ok y w ∧ VRel c w v y := by
  unfold ldCells at h
  cases hg : aggOf P t with
  | true =>
    simp only [hg, cond_true] at h
    obtain ⟨hl, h⟩ := if_some h
    simp at h; subst h
    have hall : ∀ n : Nat, n ≤ cs.length → ∃ l : List Value, l.length = n ∧ (∀ j x, l[j]? = some x → w.cell? ⟨b, o + j, none⟩ = some x) ∧ VRels c w (cs.take n) l := by
      intro n
      induction n with
      | zero => intro _; exact ⟨[], rfl, by simp, by simp [VRels]⟩
      | succ n ih =>
        intro hn
        obtain ⟨l, h1, h2, h3⟩ := ih (by omega)
        have hlt : n < cs.length := hn
        obtain ⟨_, x, hx1, hx2⟩ := CRel_get hc n cs[n] (List.getElem?_eq_getElem hlt)
        refine ⟨l ++ [x], by simp [h1], ?_, ?_⟩
        · intro j y hj
          by_cases e : j < n
          · rw [List.getElem?_append_left (by omega)] at hj; exact h2 j y hj
          · have : j = n := by
              have := (List.getElem?_eq_some_iff.1 hj).1; simp at this; omega
            subst this
            rw [List.getElem?_append_right (by omega)] at hj
            simp [h1] at hj; subst hj; exact hx1
        · rw [List.take_succ_eq_append_getElem hlt]
          refine VRels_append h3 ?_
          simp only [VRels]; exact ⟨x, [], rfl, hx2, rfl⟩
    obtain ⟨l, h1, h2, h3⟩ := hall (szOf P t) hl
    have hrun := run_loadCells_list (P := P) w ⟨b, o, none⟩ l (fun j v hj => by rw [Addr.add_lit]; exact h2 j v hj)
    rw [h1] at hrun
    refine ⟨.agg l.toArray, ?_, ?_⟩
    · simp [loadVar, run_isAgg' ht, hg, run_sizeOf' ht, hrun]
    · simp only [VRel]; exact ⟨l.toArray, rfl, by simpa using h3⟩
  | false =>
    simp only [hg, cond_false] at h
    obtain ⟨_, x, hx1, hx2⟩ := CRel_get hc 0 v (by simpa [List.head?_eq_getElem?] using h)
    refine ⟨x, ?_, hx2⟩
    simp [loadVar, run_isAgg' ht, hg, run_load] at hx1 ⊢
    simp [hx1]

theorem ptr_elem (S : Sim c w H base) {st : St} (hH : st.H = H) {j t i : Nat} {a : LArr} {e : AV} (hr : c.Rz t) (hcap : (c.T t).cap ≠ 0) (hg : st.get j t = some a) (he : a.es[i]? = some e) :
    e.stor = true ∧ ∃ v, VRel c w e v ∧ v.cells.size = a.s ∧ (c.T t).s = a.s ∧ Stored w v (c.T t).blk (i * a.s) := by
  obtain ⟨h1, h2⟩ := get_some hg
  subst h2
  have ho := S.arr j a (by rw [← hH]; exact h1) hr
  obtain ⟨_, _, _, hE⟩ := ho.blk hcap
  obtain ⟨k1, v, k2, k3, k4⟩ := ERel_get hE i e he
  exact ⟨k1, v, k2, k3, ho.s, by simpa using k4⟩

theorem run_load' (S : Sim c w H base) {st : St} (hH : st.H = H) {t : TypeId} (ht : szOk P t = true) {x v : AV} {xv : Value} (hx : VRel c w x xv)
    (h : aLoad (aggOf P t) (szOf P t) st x = some v) : ∃ y, (Instr.loadAt t xv).run P w = .ok y w ∧ VRel c w v y := by
  cases x <;> simp [aLoad] at h
  case eptr cs =>
    simp only [VRel] at hx
    obtain ⟨b, o, rfl, _, hc⟩ := hx
    obtain ⟨y, h1, h2⟩ := run_ld ht hc h
    exact ⟨y, by simpa [Instr.loadAt, Instr.sureAddr] using h1, h2⟩
  case ptr j u i f =>
    simp only [VRel] at hx
    obtain ⟨hr, hcap, rfl⟩ := hx
    obtain ⟨a, h1, h⟩ := bind_some h
    obtain ⟨e, h2, h⟩ := bind_some h
    obtain ⟨k1, xe, k2, k3, k5, k4⟩ := ptr_elem S hH hr hcap h1 h2
    have hc := CRel_drop f (CRel_elem k2 k1 k4)
    rw [k5]
    obtain ⟨y, h1, h2⟩ := run_ld ht hc h
    exact ⟨y, by simpa [Instr.loadAt, Instr.sureAddr] using h1, h2⟩

/-! operands -/
theorem avOne_rel {v : Value} {e : AV} (h : avOne v = some e) : VRel c w e v ∧ e.one = true := by
  unfold avOne at h
  split at h <;> simp at h <;> subst h <;> simp [VRel, AV.one]

theorem mapM1_some {α β : Type} {g : α → Option β} : ∀ {l : List α} {r : List β}, mapM1 g l = some r → l.length = r.length ∧ ∀ (i : Nat) (a : α) (b : β), l[i]? = some a → r[i]? = some b → g a = some b
  | [], r, h => by simp [mapM1] at h; subst h; simp
  | a :: l, r, h => by
    simp only [mapM1] at h
    obtain ⟨b, h1, h⟩ := bind_some h
    obtain ⟨bs, h2, h⟩ := bind_some h
    simp at h; subst h
    obtain ⟨k1, k2⟩ := mapM1_some h2
    refine ⟨by simp [k1], fun i x y hx hy => ?_⟩
    cases i with
    | zero => simp at hx hy; subst hx; subst hy; exact h1
    | succ i => exact k2 i x y (by simpa using hx) (by simpa using hy)

theorem avOf_rel {v : Value} {e : AV} (h : avOf v = some e) : VRel c w e v ∧ e.stor = true := by
  unfold avOf at h
  split at h
  · rename_i cs
    obtain ⟨l, h1, h⟩ := bind_some h
    simp at h; subst h
    obtain ⟨k1, k2⟩ := mapM1_some h1
    refine ⟨?_, ?_⟩
    · simp only [VRel]
      refine ⟨cs, rfl, VRels_of k1.symm fun i a v h3 h4 => (avOne_rel (k2 i v a h4 h3)).1⟩
    · simp only [AV.stor, List.all_eq_true]
      intro x hx
      obtain ⟨i, hi, rfl⟩ := List.mem_iff_getElem.1 hx
      exact (avOne_rel (c := c) (w := w) (k2 i _ _ (List.getElem?_eq_getElem (by omega)) (List.getElem?_eq_getElem hi))).2
  · obtain ⟨k1, k2⟩ := avOne_rel (c := c) (w := w) h
    refine ⟨k1, ?_⟩
    cases e <;> simp_all [AV.stor, AV.one]

theorem od_rel {A : Fr} {a : Act} (hA : ∀ t, VRel c w (A t) (a.tmps.getD t undef)) {x : Operand} {y : Opd} (h : od x = some y) : VRel c w (ev A y) (a.eval x) := by
  cases x <;> simp [od] at h
  case tmp t => subst h; exact hA t
  case const v => obtain ⟨e, h1, rfl⟩ := h; exact (avOf_rel h1).1

/-! arithmetic -/
theorem run_bin {op : BinOp} {t : TypeId} {ox oy : Operand} {x y v : AV} {xv yv : Value} (hx : VRel c w x xv) (hy : VRel c w y yv) (h : aBin op x y = some v) :
    ∃ r, (do eqGuard op t ox oy xv yv; binOp op t xv yv : Sem Value).run P w = .ok r w ∧ VRel c w v r := by
  cases x <;> cases y <;> simp [aBin] at h
  case int.int k a k' b =>
    simp only [VRel] at hx hy; subst hx; subst hy
    have hg : (eqGuard op t ox oy (.int k a) (.int k' b)).run P w = .ok () w := by
      cases op <;> simp [eqGuard]
    cases hs : isShift op with
    | true =>
      simp [hs, shBin] at h
      cases op <;> simp [isShift] at hs <;> (obtain ⟨h0, h⟩ := h; simp only [Option.some.injEq] at h; subst h; simp [hg, binOp, Op.shift, show ¬ b < 0 by omega, VRel])
    | false =>
      simp [hs] at h
      obtain ⟨rfl, h⟩ := h
      cases op <;> simp [isShift] at hs <;> simp [iBin] at h <;>
        first
        | (subst h; simp [hg, binOp, Op.intArith, Op.intBits, Op.intCmp, VRel]; done)
        | (obtain ⟨h0, h⟩ := h; subst h; simp [hg, binOp, Op.intDiv, h0, VRel]; done)
  case str.str a b =>
    simp only [VRel] at hx hy; subst hx; subst hy
    have hg : (eqGuard op t ox oy (.string a) (.string b)).run P w = .ok () w := by
      cases op <;> simp [eqGuard]
    cases op <;> simp [sBin] at h <;>
        first
        | (subst h; simp [hg, binOp, Op.stringOp, VRel]; done)
        | (obtain ⟨h0, h⟩ := h; subst h
           have hm : IntKind.i64.max = 9223372036854775807 := rfl
           have : ((a.size : Int) + (b.size : Int)) ≤ 9223372036854775807 := by omega
           simp [hg, binOp, Op.stringOp, VRel, hm, this]; done)

theorem run_binb {op : BinOp} {t : TypeId} {ox oy : Operand} {x y v : AV} {xv yv : Value} (ht : P.underlying t = some .bool) (hx : VRel c w x xv) (hy : VRel c w y yv) (h : aBinb op x y = some v) :
    ∃ r, (do eqGuard op t ox oy xv yv; binOp op t xv yv : Sem Value).run P w = .ok r w ∧ VRel c w v r := by
  cases x <;> cases y <;> simp [aBinb] at h
  case bool.bool a b =>
    simp only [VRel] at hx hy; subst hx; subst hy
    have hg : (eqGuard op t ox oy (.bool a) (.bool b)).run P w = .ok () w := by
      cases op <;> simp [eqGuard]
    have he := run_equal_bool (P := P) w t a b ht
    cases op <;> simp [bBin] at h <;> subst h <;> simp [hg, binOp, he, VRel]

theorem run_un {op : UnOp} {x v : AV} {xv : Value} (hx : VRel c w x xv) (h : aUn op x = some v) : ∃ r, (Op.unary op xv).run P w = .ok r w ∧ VRel c w v r := by
  cases op <;> cases x <;> simp [aUn] at h <;> subst h <;> simp only [VRel] at hx <;> subst hx <;> simp [Op.unary, Op.intArith, VRel]

theorem run_conv {s d : TypeId} {k k' : IntKind} {x v : AV} {xv : Value} (hs : P.underlying s = some (.int k')) (hd : P.underlying d = some (.int k)) (hx : VRel c w x xv) (h : aConv k x = some v) :
    ∃ r, (convert s d xv).run P w = .ok r w ∧ VRel c w v r := by
  cases x <;> simp [aConv] at h
  subst h; simp only [VRel] at hx; subst hx
  simp [convert, run_underlying hs, run_underlying hd, Conv.intToInt, VRel]

theorem run_mx {x y v : AV} {xv yv : Value} {ts : Array TypeId} {t : TypeId} (hx : VRel c w x xv) (hy : VRel c w y yv) (h : aMx x y = some v) :
    ∃ r, (Builtin.max_ ts t #[xv, yv]).run P w = .ok r w ∧ VRel c w v r := by
  cases x <;> cases y <;> simp [aMx] at h
  obtain ⟨rfl, rfl⟩ := h; simp only [VRel] at hx hy; subst hx; subst hy
  simp [Builtin.max_, Builtin.max2, VRel]

theorem run_mn {x y v : AV} {xv yv : Value} {ts : Array TypeId} {t : TypeId} (hx : VRel c w x xv) (hy : VRel c w y yv) (h : aMn x y = some v) :
    ∃ r, (Builtin.min_ ts t #[xv, yv]).run P w = .ok r w ∧ VRel c w v r := by
  cases x <;> cases y <;> simp [aMn] at h
  obtain ⟨rfl, rfl⟩ := h; simp only [VRel] at hx hy; subst hx; subst hy
  simp [Builtin.min_, Builtin.min2, VRel]

theorem run_extr {x v : AV} {xv : Value} {i : Nat} (hx : VRel c w x xv) (h : aExtr i x = some v) : ∃ r, (Instr.extract xv i).run P w = .ok r w ∧ VRel c w v r := by
  cases x <;> simp [aExtr] at h
  simp only [VRel] at hx; obtain ⟨vs, rfl, hx⟩ := hx
  obtain ⟨r, h1, h2⟩ := VRels_get hx i v h
  have h1' : vs[i]? = some r := by simpa using h1
  exact ⟨r, by simp [Instr.extract, h1'], h2⟩

theorem run_nilchk {x v : AV} {xv : Value} (hx : VRel c w x xv) (h : aNilchk x = some v) : ∃ a, xv = .pointer (some a) ∧ VRel c w v xv := by
  cases x <;> simp [aNilchk] at h <;> subst h
  · have hx' := hx; simp only [VRel] at hx'; exact ⟨_, hx'.2.2, hx⟩
  · have hx' := hx; simp only [VRel] at hx'; obtain ⟨b, o, rfl, _⟩ := hx'; exact ⟨_, rfl, hx⟩

/-! fields, elements -/
theorem field_ok {t : TypeId} {f : Nat} {fd : Field} (h : fieldOf? P t f = some fd) : ∃ fs, P.underlying t = some (.struct fs) ∧ fs[f]? = some fd ∧ szOk P fd.type = true ∧ szOf P fd.type ≠ 0 := by
  unfold fieldOf? at h
  split at h
  · rename_i fs hfs
    obtain ⟨f', h1, h⟩ := bind_some h
    obtain ⟨⟨h2, h3⟩, h⟩ := if_some h
    simp at h; subst h
    exact ⟨fs, hfs, h1, h2, h3⟩
  · simp at h

theorem run_faddr {t : TypeId} {f : Nat} {fd : Field} {x v : AV} {xv : Value} (hf : fieldOf? P t f = some fd) (hx : VRel c w x xv) (h : aFaddr fd.offset x = some v) :
    ∃ r, (Instr.fieldAt t xv f).run P w = .ok r w ∧ VRel c w v r := by
  obtain ⟨fs, h1, h2, h3, h4⟩ := field_ok hf
  cases x <;> simp [aFaddr] at h <;> subst h
  · simp only [VRel] at hx
    obtain ⟨hr, hc, rfl⟩ := hx
    refine ⟨_, by simp [Instr.fieldAt, run_underlying h1, h2, Instr.sureAddr, fieldPlace, run_sizeOf' h3, h4, Addr.add_lit]; rfl, ?_⟩
    simp only [VRel]
    exact ⟨hr, hc, by rw [Nat.add_assoc]⟩
  · simp only [VRel] at hx
    obtain ⟨b, o, rfl, hi, hx⟩ := hx
    refine ⟨_, by simp [Instr.fieldAt, run_underlying h1, h2, Instr.sureAddr, fieldPlace, run_sizeOf' h3, h4, Addr.add_lit]; rfl, ?_⟩
    simp only [VRel]
    exact ⟨b, o + fd.offset, rfl, hi, CRel_drop _ hx⟩

/-- a part of a struct value -/
theorem run_part {t : TypeId} (ht : szOk P t = true) {cs : List AV} {vs : Array Value} (hc : VRels c w cs vs.toList) {off : Nat} {v : AV} (h : ldCells (aggOf P t) (szOf P t) (cs.drop off) = some v) :
    ∃ y, (part t vs off).run P w = .ok y w ∧ VRel c w v y := by
  have hlen := VRels_length hc
  unfold ldCells at h
  cases hg : aggOf P t with
  | true =>
    simp only [hg, cond_true] at h
    obtain ⟨hl, h⟩ := if_some h
    simp at h; subst h
    refine ⟨.agg (vs.extract off (off + szOf P t)), by simp [part, run_isAgg' ht, hg, run_sizeOf' ht], ?_⟩
    simp only [VRel]
    refine ⟨_, rfl, VRels_of ?_ ?_⟩
    · simp at hl hlen ⊢; omega
    · intro i a x h1 h2
      have e1 : cs[off + i]? = some a := by
        rw [List.getElem?_take] at h1
        split at h1
        · simpa [List.getElem?_drop] using h1
        · simp at h1
      have e2 : vs.toList[off + i]? = some x := by
        simp [List.getElem?_take, List.getElem?_drop] at h2
        simpa using h2.2
      obtain ⟨y, k1, k2⟩ := VRels_get hc _ _ e1
      rw [k1] at e2; simp at e2; subst e2; exact k2
  | false =>
    simp only [hg, cond_false] at h
    have e1 : cs[off]? = some v := by simpa [List.head?_eq_getElem?, List.getElem?_drop] using h
    obtain ⟨y, k1, k2⟩ := VRels_get hc _ _ e1
    have k1' : vs[off]? = some y := by simpa using k1
    exact ⟨y, by simp [part, run_isAgg' ht, hg, k1'], k2⟩

theorem run_field {t : TypeId} {f : Nat} {fd : Field} {x v : AV} {xv : Value} (hf : fieldOf? P t f = some fd) (hx : VRel c w x xv) (h : aField (aggOf P fd.type) fd.offset (szOf P fd.type) x = some v) :
    ∃ r, (Instr.field t xv f).run P w = .ok r w ∧ VRel c w v r := by
  obtain ⟨fs, h1, h2, h3, h4⟩ := field_ok hf
  cases x <;> simp [aField] at h
  simp only [VRel] at hx
  obtain ⟨vs, rfl, hx⟩ := hx
  obtain ⟨y, k1, k2⟩ := run_part h3 hx h
  exact ⟨y, by simp [Instr.field, run_underlying h1, h2, asAgg, k1], k2⟩

end
end Go.Proofs.YtilbmpdeginabaaFw
