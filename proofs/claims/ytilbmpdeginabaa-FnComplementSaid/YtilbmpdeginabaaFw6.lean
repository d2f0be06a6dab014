/- The operations that make local arrays or write them. Conditions: none beside each theorem's own. -/
import Derived.Test.YtilbmpdeginabaaFw5
namespace Go.Proofs.YtilbmpdeginabaaFw
open Go Go.RowKit
set_option linter.unusedSimpArgs false
set_option linter.unusedVariables false

/-- a new tag -/
def Cx.add (c : Cx) (n : Nat) (ti : TI) : Cx := { c with T := fun t => if t = n then ti else c.T t, Rz := fun t => t = n ∨ c.Rz t }

def Free (c : Cx) (n : Nat) : Prop := n ≠ 0 ∧ ¬ c.Rz n ∧ ¬ c.Vd n

theorem im_add {c : Cx} {n : Nat} {ti : TI} (F : Free c n) (b : Nat) : (c.add n ti).Im b ↔ c.Im b := by
  unfold Cx.Im Cx.add
  simp only
  constructor
  · rintro (h | ⟨t, h1, h2, h3⟩)
    · exact .inl h
    · have : t ≠ n := fun e => F.2.2 (e ▸ h1)
      simp only [if_neg this] at h2 h3
      exact .inr ⟨t, h1, h2, h3⟩
  · rintro (h | ⟨t, h1, h2, h3⟩)
    · exact .inl h
    · have : t ≠ n := fun e => F.2.2 (e ▸ h1)
      exact .inr ⟨t, h1, by simp only [if_neg this]; exact h2, by simp only [if_neg this]; exact h3⟩

theorem Ex_add {c : Cx} {w w' : World} {n : Nat} {ti : TI} (F : Free c n) (h : ∀ b, c.Im b → ∀ o, w'.cell? ⟨b, o, none⟩ = w.cell? ⟨b, o, none⟩) : Ex c w (c.add n ti) w' :=
  ⟨rfl, fun t ht => ⟨.inr ht, if_neg fun (e : t = n) => F.2.1 (e ▸ ht)⟩, fun t ht => ⟨ht, if_neg fun (e : t = n) => F.2.2 (e ▸ ht)⟩, h⟩

def hput (H : Nat → Option LArr) (j : Nat) (a : LArr) : Nat → Option LArr := fun i => bif Nat.beq i j then some a else H i

theorem hput_self (H : Nat → Option LArr) (j : Nat) (a : LArr) : hput H j a j = some a := by simp [hput]
theorem hput_ne (H : Nat → Option LArr) {i j : Nat} (a : LArr) (h : i ≠ j) : hput H j a i = H i := by
  have : Nat.beq i j = false := by
    cases e : Nat.beq i j with
    | false => rfl
    | true => exact absurd (Nat.eq_of_beq_eq_true e) h
  simp [hput, this]

theorem cell_of_block {w w' : World} {b : Nat} (h : w'.heap[b]? = w.heap[b]?) (o : Nat) : w'.cell? ⟨b, o, none⟩ = w.cell? ⟨b, o, none⟩ := by
  simp [World.cell?, h]

section
variable {P : Program} {c : Cx} {w w' : World} {H : Nat → Option LArr} {base : Nat}

theorem ArrOk.lt {a : LArr} (h : ArrOk c w base a) (hc : (c.T a.tag).cap ≠ 0) : (c.T a.tag).blk < w.heap.size := by
  obtain ⟨_, _, ⟨cs, e, h1, _⟩, _⟩ := h.blk hc
  rcases Nat.lt_or_ge (c.T a.tag).blk w.heap.size with h | h
  · exact h
  · simp [Array.getElem?_eq_none h] at h1

/-- an array in a world that has changed elsewhere -/
theorem ArrOk.keep {n : Nat} {ti : TI} {a : LArr} (F : Free c n) (X : Ex c w (c.add n ti) w') (h : ArrOk c w base a) (hr : c.Rz a.tag)
    (hb : (c.T a.tag).cap ≠ 0 → w'.heap[(c.T a.tag).blk]? = w.heap[(c.T a.tag).blk]?) : ArrOk (c.add n ti) w' base a := by
  have e : (c.add n ti).T a.tag = c.T a.tag := (X.rz _ hr).2
  refine ⟨by rw [e]; exact h.s, h.pos, by rw [e]; exact h.len, fun hc => ?_⟩
  rw [e] at hc ⊢
  obtain ⟨h1, h2, ⟨cs, el, h3, h4⟩, h5⟩ := h.blk hc
  refine ⟨h1, fun hi => h2 ((im_add F _).1 hi), ⟨cs, el, by rw [hb hc]; exact h3, h4⟩, ERel_own X (fun o => cell_of_block (hb hc) o) h5⟩

/-- the array number j is laid anew, under a new tag: in a new block, or in the block that it had -/
theorem Sim_put {n j : Nat} {ti : TI} {es : List AV} {s : Nat} (S : Sim c w H base) (F : Free c n) (hs : ti.s = s) (hs0 : s ≠ 0) (hl : es.length ≤ ti.cap)
    (hNo : ∀ i a, i ≠ j → H i = some a → a.tag ≠ n) (hsz : w.heap.size ≤ w'.heap.size)
    (hother : ∀ b, b < w.heap.size → (ti.cap ≠ 0 → b ≠ ti.blk) → w'.heap[b]? = w.heap[b]?)
    (hown : ti.cap ≠ 0 → w.heap.size ≤ ti.blk ∨ ∃ a, H j = some a ∧ c.Rz a.tag ∧ (c.T a.tag).cap ≠ 0 ∧ (c.T a.tag).blk = ti.blk)
    (hblk : ti.cap ≠ 0 → ∃ cs e, w'.heap[ti.blk]? = some (.cells cs e (0, 0)) ∧ cs.size = ti.cap * s)
    (hE : ti.cap ≠ 0 → Ex c w (c.add n ti) w' → ERel (c.add n ti) w' s es ti.blk 0) :
    Ex c w (c.add n ti) w' ∧ Sim (c.add n ti) w' (hput H j { tag := n, s := s, es := es }) base := by
  have nim : ti.cap ≠ 0 → ¬ c.Im ti.blk ∧ base ≤ ti.blk := fun hc => by
    rcases hown hc with h | ⟨a, h1, h2, h3, h4⟩
    · exact ⟨fun hi => by have := S.im _ hi; omega, by have := S.hb; omega⟩
    · have := (S.arr j a h1 h2).blk h3
      rw [h4] at this
      exact ⟨this.2.1, this.1⟩
  have X : Ex c w (c.add n ti) w' := Ex_add F (fun b hb o => cell_of_block (hother b (S.im b hb) (fun hc e => (nim hc).1 (e ▸ hb))) o)
  have tn : (c.add n ti).T n = ti := if_pos rfl
  refine ⟨X, ?_⟩
  have tne : ∀ {t}, (c.Rz t ∨ c.Vd t) → (c.add n ti).T t = c.T t := fun {t} ht => if_neg fun e => by
    rcases ht with ht | ht
    · exact F.2.1 (e ▸ ht)
    · exact F.2.2 (e ▸ ht)
  have blkne : ∀ i a, i ≠ j → H i = some a → c.Rz a.tag → (c.T a.tag).cap ≠ 0 → ti.cap ≠ 0 → (c.T a.tag).blk ≠ ti.blk := by
    intro i a hi ha hr hc hc' e
    rcases hown hc' with h | ⟨b, h1, h2, h3, h4⟩
    · have := (S.arr i a ha hr).lt hc; omega
    · exact hi (S.inj i j a b ha h1 hr h2 hc h3 (e.trans h4.symm))
  refine ⟨S.n0, by have := S.hb; omega, fun b hb => by have := S.im b ((im_add F b).1 hb); omega, ?_, ?_, ?_, ?_, ?_, ?_, ?_⟩
  · intro t u ht hu
    rw [tne (.inr ht), tne (.inr hu)]
    exact S.vinj t u ht hu
  · intro t ht
    rw [tne (.inr ht)]
    exact S.vb t ht
  · intro t ht hc
    rw [tne (.inr ht)] at hc ⊢
    have him : c.Im (c.T t).blk := .inr ⟨t, ht, hc, rfl⟩
    obtain ⟨cs, e, h1, h2⟩ := S.vblk t ht hc
    exact ⟨cs, e, by rw [hother _ (S.im _ him) (fun hc' e => (nim hc').1 (e ▸ him))]; exact h1, h2⟩
  · rintro t ((rfl | ht) | ht)
    · exact F.1
    · exact S.pos t (.inl ht)
    · exact S.pos t (.inr ht)
  · rintro t (rfl | ht)
    · exact F.2.2
    · exact S.dis t ht
  · intro i a ha hr
    by_cases hi : i = j
    · subst hi
      rw [hput_self] at ha
      simp at ha; subst ha
      refine ⟨by simp only [tn]; exact hs, hs0, by simp only [tn]; exact hl, fun hc => ?_⟩
      simp only [tn] at hc ⊢
      exact ⟨(nim hc).2, fun h => (nim hc).1 ((im_add F _).1 h), hblk hc, hE hc X⟩
    · rw [hput_ne _ _ hi] at ha
      rcases hr with hr | hr
      · exact absurd hr (hNo i a hi ha)
      · exact (S.arr i a ha hr).keep F X hr (fun hc => hother _ ((S.arr i a ha hr).lt hc) (fun hc' => blkne i a hi ha hr hc hc'))
  · intro i i' a a' ha ha' hr hr' hc hc' e
    by_cases hi : i = j
    · by_cases hi' : i' = j
      · rw [hi, hi']
      · subst hi
        rw [hput_self] at ha; rw [hput_ne _ _ hi'] at ha'
        simp at ha; subst ha
        have hr' : c.Rz a'.tag := hr'.resolve_left (hNo i' a' hi' ha')
        simp only [tn, tne (.inl hr')] at hc hc' e
        exact absurd e.symm (blkne i' a' hi' ha' hr' hc' hc)
    · rw [hput_ne _ _ hi] at ha
      have hr : c.Rz a.tag := hr.resolve_left (hNo i a hi ha)
      by_cases hi' : i' = j
      · subst hi'
        rw [hput_self] at ha'
        simp at ha'; subst ha'
        simp only [tn, tne (.inl hr)] at hc hc' e
        exact absurd e (blkne i a hi ha hr hc hc')
      · rw [hput_ne _ _ hi'] at ha'
        have hr' : c.Rz a'.tag := hr'.resolve_left (hNo i' a' hi' ha')
        simp only [tne (.inl hr), tne (.inl hr')] at hc hc' e
        exact S.inj i i' a a' ha ha' hr hr' hc hc' e

theorem ERel_lay {s b : Nat} {es : List AV} {cs : Array Value} {t : TypeId} {fr : Nat × Nat} (hb : w.heap[b]? = some (.cells cs t fr))
    (h : ∀ (i : Nat) (e : AV), es[i]? = some e → e.stor = true ∧ ∃ v, VRel c w e v ∧ v.cells.size = s ∧ ∀ (k : Nat) (x : Value), v.cells[k]? = some x → cs[i * s + k]? = some x) : ERel c w s es b 0 := by
  refine ERel_of es 0 (fun i e hi => ?_)
  obtain ⟨h1, v, h2, h3, h4⟩ := h i e hi
  refine ⟨h1, v, h2, h3, fun k x hk => ?_⟩
  simp only [World.cell?, hb, Nat.zero_add]
  simpa using h4 k x hk

structure Post (c : Cx) (w : World) (base n n' : Nat) (c' : Cx) (w' : World) : Prop where
  ex : Ex c w c' w'
  below : Below base w w'
  off : ∀ t, ¬ (n ≤ t ∧ t < n') → c'.T t = c.T t ∧ (c'.Rz t ↔ c.Rz t) ∧ (c'.Vd t ↔ c.Vd t)
  vnew : ∀ t, c'.Vd t → (c'.T t).cap ≠ 0 → c.Vd t ∨ base ≤ (c'.T t).blk

theorem Post.same (c : Cx) (w : World) (base n n' : Nat) : Post c w base n n' c w := ⟨Ex.refl _ _, Below.refl _ _, fun _ _ => ⟨rfl, Iff.rfl, Iff.rfl⟩, fun _ h _ => .inl h⟩

theorem off_add {n : Nat} {ti : TI} (t : Nat) (h : ¬ (n ≤ t ∧ t < n + 1)) : (c.add n ti).T t = c.T t ∧ ((c.add n ti).Rz t ↔ c.Rz t) ∧ ((c.add n ti).Vd t ↔ c.Vd t) := by
  have hne : t ≠ n := by omega
  exact ⟨if_neg hne, ⟨fun h => h.resolve_left hne, .inr⟩, Iff.rfl⟩

theorem alloc_old (w : World) (o : Obj) {b : Nat} (h : b < w.heap.size) : (w.alloc o).heap[b]? = w.heap[b]? := Below.heap_alloc w o b h
theorem alloc_new (w : World) (o : Obj) : (w.alloc o).heap[w.heap.size]? = some o := by
  show (w.heap.push o)[w.heap.size]? = some o
  simp

/-- one block more, laid out as the elements -/
theorem lay_new {n j cap : Nat} {es : List AV} {s : Nat} {cs : Array Value} {t : TypeId} {W : World} (S : Sim c w H base) (F : Free c n) (hNo : ∀ i a, i ≠ j → H i = some a → a.tag ≠ n)
    (hW : W.heap = w.heap) (hWt : W.tape = w.tape) (hWo : W.os = w.os) (hWu : W.output = w.output) (hs0 : s ≠ 0) (hl : es.length ≤ cap) (hsz : cs.size = cap * s)
    (h : ∀ (i : Nat) (e : AV), es[i]? = some e → e.stor = true ∧ ∃ v, VRel c w e v ∧ v.cells.size = s ∧ ∀ (k : Nat) (x : Value), v.cells[k]? = some x → cs[i * s + k]? = some x) :
    let c' := c.add n ⟨w.heap.size, cap, s⟩
    Post c w base n (n + 1) c' (W.alloc (.cells cs t)) ∧ Sim c' (W.alloc (.cells cs t)) (hput H j { tag := n, s := s, es := es }) base ∧ c'.Rz n ∧ c'.T n = ⟨w.heap.size, cap, s⟩ := by
  intro c'
  have hn : (W.alloc (.cells cs t)).heap[w.heap.size]? = some (.cells cs t (0, 0)) := by rw [← hW]; exact alloc_new W _
  have ho : ∀ b, b < w.heap.size → (W.alloc (.cells cs t)).heap[b]? = w.heap[b]? := fun b hb => by rw [alloc_old W _ (by rw [hW]; exact hb), hW]
  obtain ⟨X, S'⟩ := Sim_put (w' := W.alloc (.cells cs t)) (j := j) (ti := ⟨w.heap.size, cap, s⟩) (es := es) S F rfl hs0 hl hNo (by simp [hW])
    (fun b hb _ => ho b hb) (fun _ => .inl (Nat.le_refl _)) (fun _ => ⟨cs, t, hn, hsz⟩)
    (fun _ X => ERel_lay hn (fun i e hi => by
      obtain ⟨h1, v, h2, h3, h4⟩ := h i e hi
      exact ⟨h1, v, VRel_ex X h2, h3, h4⟩))
  refine ⟨⟨X, ⟨hWo, hWt, hWu, by simp [hW], fun k hk => ho k (by have := S.hb; omega)⟩, off_add, fun _ h _ => .inl h⟩, S', .inl rfl, if_pos rfl⟩

theorem zero_ok {t : TypeId} {e : AV} (h : zeroOf P t = some e) : ∃ i z, P.info? t = some i ∧ i.zero = some z ∧ avOf z = some e ∧ e.cells.length = i.size ∧ z.cells.size = i.size := by
  unfold zeroOf at h
  obtain ⟨i, h1, h⟩ := bind_some h
  obtain ⟨z, h2, h⟩ := bind_some h
  obtain ⟨v, h3, h⟩ := bind_some h
  obtain ⟨h4, h⟩ := if_some h
  simp at h; subst h
  obtain ⟨k1, k2⟩ := avOf_rel (c := ⟨0, fun _ => ⟨0, 0, 0⟩, fun _ => False, fun _ => False⟩) (w := default) h3
  exact ⟨i, z, h1, h2, h3, h4, by rw [stor_size k1 k2, h4]⟩

theorem run_alloc {t : TypeId} {e : AV} {n j : Nat} (hz : zeroOf P t = some e) (hne : e.cells.length ≠ 0) (S : Sim c w H base) (F : Free c n) (hNo : ∀ i a, i ≠ j → H i = some a → a.tag ≠ n) :
    ∃ r c' w', (Instr.alloc t true (.tuple #[])).run P w = .ok r w' ∧ Post c w base n (n + 1) c' w' ∧ Sim c' w' (hput H j { tag := n, s := e.cells.length, es := [e] }) base ∧ VRel c' w' (.ptr j n 0 0) r := by
  obtain ⟨i, z, h1, h2, h3, h4, h5⟩ := zero_ok hz
  obtain ⟨k1, k2⟩ := avOf_rel (c := c) (w := w) h3
  obtain ⟨p1, p2, p3, p4⟩ := lay_new (W := w) (cs := z.cells) (t := t) (es := [e]) (cap := 1) S F hNo rfl rfl rfl rfl hne (by simp) (by omega) (fun i x hi => by
    have hi0 : i = 0 := by have := (List.getElem?_eq_some_iff.1 hi).1; simp at this; omega
    subst hi0; simp at hi; subst hi
    exact ⟨k2, z, k1, by omega, fun k x hk => by simpa using hk⟩)
  refine ⟨.pointer (some ⟨w.heap.size, 0, none⟩), _, _, ?_, p1, p2, ?_⟩
  · simp [Instr.alloc, zeroValue, typeInfo, h1, h2, newVar, newRow]
  · simp only [VRel]; exact ⟨p3, by rw [p4]; simp, by rw [p4]; simp⟩

theorem run_box {t : TypeId} {x : AV} {xv : Value} {n j : Nat} (hx : VRel c w x xv) (h1 : x.stor = true) (hne : x.cells.length ≠ 0) (S : Sim c w H base) (F : Free c n) (hNo : ∀ i a, i ≠ j → H i = some a → a.tag ≠ n) :
    ∃ r c' w', (Instr.box t xv).run P w = .ok r w' ∧ Post c w base n (n + 1) c' w' ∧ Sim c' w' (hput H j { tag := n, s := x.cells.length, es := [x] }) base ∧ VRel c' w' (.ptr j n 0 0) r := by
  have hsz := stor_size hx h1
  obtain ⟨p1, p2, p3, p4⟩ := lay_new (W := w) (cs := xv.cells) (t := t) (es := [x]) (cap := 1) S F hNo rfl rfl rfl rfl hne (by simp) (by omega) (fun i y hi => by
    have hi0 : i = 0 := by have := (List.getElem?_eq_some_iff.1 hi).1; simp at this; omega
    subst hi0; simp at hi; subst hi
    exact ⟨h1, xv, hx, by omega, fun k x hk => by simpa using hk⟩)
  refine ⟨.pointer (some ⟨w.heap.size, 0, none⟩), _, _, ?_, p1, p2, ?_⟩
  · simp [Instr.box, newVar, newRow]
  · simp only [VRel]; exact ⟨p3, by rw [p4]; simp, by rw [p4]; simp⟩

theorem made_get (z : Array Value) (s n i k : Nat) (x : Value) (hz : z.size = s) (hk : z[k]? = some x) (hi : i * s + k < n) : (madeCells z n)[i * s + k]? = some x := by
  have hks : k < s := by
    have := (Array.getElem?_eq_some_iff.1 hk).1; omega
  have e : (i * s + k) % s = k := by
    rw [Nat.mul_comm, Nat.mul_add_mod]; exact Nat.mod_eq_of_lt hks
  have : z[k]! = x := by
    obtain ⟨hlt, rfl⟩ := Array.getElem?_eq_some_iff.1 hk
    exact getElem!_pos z k hlt
  simp [madeCells, hi, hz, e, this]

theorem run_mkslice {t e : TypeId} {z : AV} {l cp : Int} {lv cv : Value} {n j : Nat} (he : elemOf? P t = some e) (hz : zeroOf P e = some z) (hl : VRel c w (.int .i64 l) lv) (hc : VRel c w (.int .i64 cp) cv)
    (h0 : 0 ≤ l) (hlc : l ≤ cp) (hm : cp ≤ maxNeed) (S : Sim c w H base) (F : Free c n) (hNo : ∀ i a, i ≠ j → H i = some a → a.tag ≠ n) :
    ∃ r c' w', (Instr.makeSlice t lv cv).run P w = .ok r w' ∧ Post c w base n (n + 1) c' w' ∧ Sim c' w' (hput H j { tag := n, s := szOf P e, es := List.replicate l.toNat z }) base ∧ VRel c' w' (.lsl j n (szOf P e) 0 l.toNat) r := by
  obtain ⟨inf, d, h1, h2, h3, h4, h5, h6, h7⟩ := elem_ok he
  obtain ⟨i, zv, g1, g2, g3, g4, g5⟩ := zero_ok hz
  rw [h2] at g1; simp at g1; subst g1
  obtain ⟨k1, k2⟩ := avOf_rel (c := c) (w := w) g3
  simp only [VRel] at hl hc; subst hl; subst hc
  have hm' : cp ≤ 4294967296 := hm
  have hb : (inf.bytes : Int) * cp ≤ 281474976710656 := by
    have : (inf.bytes : Int) * cp ≤ 4096 * 4294967296 := Int.mul_le_mul (by omega) hm' (by omega) (by omega)
    omega
  have hrun := run_make (P := P) w t e inf zv h1 h2 g2 .i64 .i64 l cp h0 hlc hb (by omega)
  obtain ⟨p1, p2, p3, p4⟩ := lay_new (W := w) (cs := madeCells zv.cells (cp.toNat * inf.size)) (t := e) (es := List.replicate l.toNat z) (cap := cp.toNat) (s := szOf P e) S F hNo rfl rfl rfl rfl (by omega) (by simp; omega)
    (by rw [size_madeCells, h4]) (fun i y hi => by
      have hil : i < l.toNat := by have := (List.getElem?_eq_some_iff.1 hi).1; simpa using this
      have : y = z := by
        have := (List.getElem?_eq_some_iff.1 hi).2; simp at this; exact this.symm
      subst this
      refine ⟨k2, zv, k1, by omega, fun k x hk => ?_⟩
      refine made_get _ _ _ _ _ _ (by omega) hk ?_
      have hks : k < szOf P e := by have := (Array.getElem?_eq_some_iff.1 hk).1; omega
      have : (i + 1) * szOf P e ≤ cp.toNat * szOf P e := Nat.mul_le_mul_right _ (by omega)
      rw [Nat.add_mul] at this
      rw [← h4]; omega)
  refine ⟨_, _, _, hrun, p1, p2, ?_⟩
  simp only [VRel]
  exact ⟨p3, by rw [p4], some ⟨w.heap.size, 0, none⟩, cp.toNat, rfl, by rw [p4]; simp, by omega, .inr (by rw [p4]; simp)⟩

end
end Go.Proofs.YtilbmpdeginabaaFw
