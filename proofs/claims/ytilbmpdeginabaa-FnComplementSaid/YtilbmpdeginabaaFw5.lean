/- The operations on slices, strings and arrays that only read. Conditions: none beside each theorem's own. -/
import Derived.Test.YtilbmpdeginabaaFw4
namespace Go.Proofs.YtilbmpdeginabaaFw
open Go Go.RowKit
set_option linter.unusedSimpArgs false
set_option linter.unusedVariables false

section
variable {P : Program} {c : Cx} {w : World} {H : Nat → Option LArr} {base : Nat}

theorem elem_ok {t e : TypeId} (h : elemOf? P t = some e) : ∃ i d, P.underlying t = some (.slice e) ∧ P.info? e = some i ∧ P.underlying e = some d ∧ szOf P e = i.size ∧ i.size ≠ 0 ∧ i.bytes ≤ 4096 ∧ szOk P e = true := by
  unfold elemOf? at h
  split at h
  · rename_i e' he
    obtain ⟨i, h1, h⟩ := bind_some h
    obtain ⟨⟨h2, h3, h4⟩, h⟩ := if_some h
    simp at h; subst h
    obtain ⟨d, hd⟩ := Option.isSome_iff_exists.1 h2
    exact ⟨i, d, he, h1, hd, by simp [szOf, Program.cellsOf, h1], h3, h4, by simp [szOk, h1, hd]⟩
  · simp at h

/-- the place of an element of a slice that is a tree -/
theorem sl_place {t off s : Nat} {es : List AV} {v : Value} (h : VRel c w (.sl t off s es) v) (hne : es ≠ []) : ∃ b o cap, v = .slice (some ⟨b, o, none⟩) es.length cap ∧ es.length ≤ cap ∧ c.Im b ∧ ERel c w s es b o := by
  simp only [VRel] at h
  have hl : 0 < es.length := List.length_pos_iff.2 hne
  rcases h.2 with ⟨_, a, cap, rfl, h2, h3⟩ | ⟨h0, h1, h2, ⟨a, cap, rfl, h5, h6, h7⟩, h4⟩
  · rcases h3 with h3 | ⟨b, o, rfl, hb, hE⟩
    · exact absurd h3 hne
    · exact ⟨b, o, cap, rfl, h2, .inl hb, hE⟩
  · rcases h7 with h7 | rfl
    · omega
    · rw [h2]; exact ⟨_, _, cap, rfl, h6, .inr ⟨t, h1, by omega, rfl⟩, h4⟩

theorem run_iaddr {t e : TypeId} {x i v : AV} {xv iv : Value} (he : elemOf? P t = some e) (hx : VRel c w x xv) (hi : VRel c w i iv) (h : aIaddr (szOf P e) x i = some v) :
    ∃ r, (Instr.indexAt t xv iv).run P w = .ok r w ∧ VRel c w v r := by
  obtain ⟨inf, d, h1, h2, h3, h4, h5, h6, h7⟩ := elem_ok he
  cases x <;> cases i <;> simp [aIaddr] at h
  case lsl.int j tg s off len k n =>
    obtain ⟨⟨rfl, hn0, hn⟩, rfl⟩ := h
    simp only [VRel] at hx hi
    obtain ⟨hr, hs, a, cap, rfl, k1, k2, k3⟩ := hx
    subst hi
    have hc : cap ≠ 0 := by omega
    obtain rfl := k3.resolve_left hc
    refine ⟨.pointer (some ⟨(c.T tg).blk, off * (c.T tg).s + n.toNat * szOf P e, none⟩), ?_, ?_⟩
    · simp [Instr.indexAt, run_underlying h1, asIntOf, hn0, hn, run_sizeOf' h7, Addr.add_lit]
    · simp only [VRel]
      exact ⟨hr, by omega, by rw [hs, Nat.add_mul, Nat.add_zero]⟩
  case sl.int tg off s es k n =>
    obtain ⟨⟨rfl, hn0⟩, h⟩ := h
    obtain ⟨el, he1, h⟩ := bind_some h
    simp at h; subst h
    simp only [VRel] at hi; subst hi
    have hlt := (List.getElem?_eq_some_iff.1 he1).1
    have hne : es ≠ [] := by intro e0; subst e0; simp at hlt
    obtain ⟨b, o, cap, rfl, hle, hb, hE⟩ := sl_place hx hne
    obtain ⟨q1, ev, q2, q3, q4⟩ := ERel_get hE _ el he1
    refine ⟨.pointer (some ⟨b, o + n.toNat * szOf P e, none⟩), ?_, ?_⟩
    · have hn : n < (es.length : Int) := by omega
      simp [Instr.indexAt, run_underlying h1, asIntOf, hn0, hn, run_sizeOf' h7, Addr.add_lit]
    · simp only [VRel]
      exact ⟨b, _, rfl, hb, CRel_elem q2 q1 q4⟩

theorem run_aidx {t e : TypeId} {len : Nat} {x i v : AV} {xv iv : Value} (ht : P.underlying t = some (.array len e)) (he : szOk P e = true) (h1 : 1 < len) (hx : VRel c w x xv) (hi : VRel c w i iv) (h : aAidx len (szOf P e) x i = some v) :
    ∃ r, (Instr.indexAt t xv iv).run P w = .ok r w ∧ VRel c w v r := by
  cases x <;> cases i <;> simp [aAidx] at h
  case ptr.int j tg a f k n =>
    obtain ⟨⟨hn0, hn⟩, rfl⟩ := h
    simp only [VRel] at hx hi; subst hi
    obtain ⟨hr, hc, rfl⟩ := hx
    refine ⟨_, by simp [Instr.indexAt, run_underlying ht, asIntOf, Instr.sureAddr, hn0, hn, run_sizeOf' he, Addr.add_lit]; rfl, ?_⟩
    simp only [VRel]; exact ⟨hr, hc, by rw [Nat.add_assoc]⟩
  case eptr.int cs k n =>
    obtain ⟨⟨hn0, hn⟩, rfl⟩ := h
    simp only [VRel] at hx hi; subst hi
    obtain ⟨b, o, rfl, hb, hx⟩ := hx
    refine ⟨_, by simp [Instr.indexAt, run_underlying ht, asIntOf, Instr.sureAddr, hn0, hn, run_sizeOf' he, Addr.add_lit]; rfl, ?_⟩
    simp only [VRel]; exact ⟨b, _, rfl, hb, CRel_drop _ hx⟩

theorem run_vidx {t e : TypeId} {len : Nat} {x i v : AV} {xv iv : Value} (ht : P.underlying t = some (.array len e)) (he : szOk P e = true) (hx : VRel c w x xv) (hi : VRel c w i iv) (h : aVidx (aggOf P e) len (szOf P e) x i = some v) :
    ∃ r, (Instr.index t xv iv).run P w = .ok r w ∧ VRel c w v r := by
  cases x <;> cases i <;> simp [aVidx] at h
  obtain ⟨⟨hn0, hn⟩, h⟩ := h
  simp only [VRel] at hx hi; subst hi
  obtain ⟨vs, rfl, hx⟩ := hx
  obtain ⟨y, k1, k2⟩ := run_part he hx h
  exact ⟨y, by simp [Instr.index, asIntOf, run_underlying ht, hn0, hn, run_sizeOf' he, k1], k2⟩

theorem run_sidx {t : TypeId} {x i v : AV} {xv iv : Value} (ht : P.underlying t = some .string) (hx : VRel c w x xv) (hi : VRel c w i iv) (h : aSidx x i = some v) :
    ∃ r, (Instr.index t xv iv).run P w = .ok r w ∧ VRel c w v r := by
  cases x <;> cases i <;> simp [aSidx] at h
  obtain ⟨hn0, h⟩ := h
  obtain ⟨b, hb, h⟩ := bind_some h
  simp at h; subst h
  simp only [VRel] at hx hi; subst hx; subst hi
  simp [Instr.index, asIntOf, run_underlying ht, hn0, hb, VRel]

theorem run_slen {t ty : TypeId} {x v : AV} {xv : Value} (ht : P.underlying t = some .string) (hx : VRel c w x xv) (h : aSlen x = some v) : ∃ r, (Builtin.len_ #[t] ty #[xv]).run P w = .ok r w ∧ VRel c w v r := by
  cases x <;> simp [aSlen] at h <;> subst h
  simp only [VRel] at hx; subst hx
  simp [Builtin.len_, run_underlying ht, goInt, VRel]

theorem run_len {t ty e : TypeId} {x v : AV} {xv : Value} (he : P.underlying t = some (.slice e)) (hx : VRel c w x xv) (h : aLen x = some v) :
    ∃ r, (Builtin.len_ #[t] ty #[xv]).run P w = .ok r w ∧ VRel c w v r := by
  cases x <;> simp [aLen] at h <;> subst h
  case nils => simp only [VRel] at hx; obtain ⟨a, rfl⟩ := hx; simp [Builtin.len_, run_underlying he, goInt, VRel]
  case lsl => simp only [VRel] at hx; obtain ⟨_, _, a, cap, rfl, _⟩ := hx; simp [Builtin.len_, run_underlying he, goInt, VRel]
  case sl => simp only [VRel] at hx; rcases hx.2 with ⟨_, a, cap, rfl, _⟩ | ⟨_, _, _, ⟨a, cap, rfl, _⟩, _⟩ <;> simp [Builtin.len_, run_underlying he, goInt, VRel]

theorem treeL_iff : ∀ {l : List AV}, treeL l = true ↔ ∀ x ∈ l, x.tree = true
  | [] => by simp [treeL]
  | v :: l => by simp [treeL, treeL_iff]

theorem treeL_sub {l : List AV} (h : treeL l = true) (a b : Nat) : treeL ((l.take a).drop b) = true :=
  treeL_iff.2 fun x hx => treeL_iff.1 h x (List.mem_of_mem_take (List.mem_of_mem_drop hx))

/-! bounds -/
theorem bound_some {len d n : Nat} {o : Option AV} (h : aBound len d o = some n) : (o = none ∧ n = d) ∨ ∃ k i, o = some (.int k i) ∧ 0 ≤ i ∧ i ≤ (len : Int) ∧ n = i.toNat := by
  unfold aBound at h
  split at h
  · simp at h; exact .inl ⟨rfl, h.symm⟩
  · obtain ⟨h1, h⟩ := if_some h
    simp at h; exact .inr ⟨_, _, rfl, h1.1, h1.2, h.symm⟩
  · simp at h

/-- an operand of a slice expression -/
def BRel (c : Cx) (w : World) (x : Option AV) (v : Option Value) : Prop :=
  match x, v with
  | none, none => True
  | some x, some v => VRel c w x v
  | _, _ => False

theorem run_bounds {isS : Bool} {len cap : Nat} {lo hi : Option AV} {lov hiv : Option Value} (hlo : BRel c w lo lov) (hhi : BRel c w hi hiv) {l h : Nat} (hh : aBound len len hi = some h) (hl : aBound h 0 lo = some l) (hc : len ≤ cap) :
    (Instr.sliceBounds isS len cap lov hiv none).run P w = .ok (l, h, cap) w ∧ l ≤ h ∧ h ≤ len := by
  have e1 : h ≤ len := by
    rcases bound_some hh with ⟨_, rfl⟩ | ⟨k, i, _, h1, h2, rfl⟩ <;> omega
  have e2 : l ≤ h := by
    rcases bound_some hl with ⟨_, rfl⟩ | ⟨k, i, _, h1, h2, rfl⟩ <;> omega
  refine ⟨?_, e2, e1⟩
  rcases bound_some hh with ⟨rfl, rfl⟩ | ⟨k, i, rfl, h1, h2, rfl⟩ <;> rcases bound_some hl with ⟨rfl, rfl⟩ | ⟨k', i', rfl, h1', h2', rfl⟩ <;>
    cases hiv <;> simp only [BRel] at hhi <;> cases lov <;> simp only [BRel] at hlo <;> (try simp only [VRel] at hhi) <;> (try simp only [VRel] at hlo) <;> (try subst hhi) <;> (try subst hlo)
  · simp [Instr.sliceBounds]
  · simp [Instr.sliceBounds, Instr.sliceBound, asIntOf, h1', h2']
  · have : i ≤ (cap : Int) := by omega
    simp [Instr.sliceBounds, Instr.sliceBound, asIntOf, h1, this]
  · have h3 : i ≤ (cap : Int) := by omega
    have h4 : i' ≤ i := by omega
    have h5 : max i 0 = i := by omega
    simp [Instr.sliceBounds, Instr.sliceBound, asIntOf, h1, h3, h1', h4, h5]

theorem SH_sub {ti : TI} {off len l h : Nat} {a : Option Addr} {cap : Nat} (h5 : off + cap = ti.cap) (h6 : len ≤ cap) (h7 : cap = 0 ∨ a = some ⟨ti.blk, off * ti.s, none⟩) (e1 : l ≤ h) (e2 : h ≤ len) :
    SH ti (off + l) (h - l) (.slice (if cap = l then a else a.map (·.add (l * ti.s))) (h - l) (cap - l)) := by
  refine ⟨_, _, rfl, by omega, by omega, ?_⟩
  by_cases e : cap = l
  · exact .inl (by omega)
  · right
    rw [if_neg e]
    rcases h7 with h7 | rfl
    · omega
    · simp [Addr.add_lit, Nat.add_mul]

theorem run_slc {t e : TypeId} {x v : AV} {xv : Value} {lo hi : Option AV} {lov hiv : Option Value} (he : elemOf? P t = some e) (hx : VRel c w x xv) (hlo : BRel c w lo lov) (hhi : BRel c w hi hiv) (h : aSlc (szOf P e) x lo hi = some v) :
    ∃ r, (Instr.sliceAt t xv lov hiv none).run P w = .ok r w ∧ VRel c w v r := by
  obtain ⟨inf, d, h1, h2, h3, h4, h5, h6, h7⟩ := elem_ok he
  cases x <;> simp [aSlc] at h
  case nils =>
    simp only [VRel] at hx; obtain ⟨a, rfl⟩ := hx
    obtain ⟨hh, k1, h⟩ := bind_some h
    obtain ⟨l, k2, h⟩ := bind_some h
    simp at h; subst h
    obtain ⟨q1, q2, q3⟩ := run_bounds (P := P) (isS := true) (cap := 0) hlo hhi k1 k2 (Nat.le_refl _)
    refine ⟨.slice a 0 0, ?_, by simp only [VRel]; exact ⟨a, rfl⟩⟩
    simp [Instr.sliceAt, Instr.slice, run_underlying h1, q1, run_sizeOf' h7, show l = 0 by omega, show hh = 0 by omega]
  case lsl j tg s off len =>
    obtain ⟨rfl, h⟩ := h
    obtain ⟨hh, k1, h⟩ := bind_some h
    obtain ⟨l, k2, h⟩ := bind_some h
    simp at h; subst h
    simp only [VRel] at hx
    obtain ⟨hr, hs, a, cap, rfl, k5, k6, k7⟩ := hx
    obtain ⟨q1, q2, q3⟩ := run_bounds (P := P) (isS := true) hlo hhi k1 k2 k6
    refine ⟨.slice (if cap = l then a else a.map (·.add (l * szOf P e))) (hh - l) (cap - l), ?_, ?_⟩
    · simp [Instr.sliceAt, Instr.slice, run_underlying h1, q1, run_sizeOf' h7]
    · simp only [VRel]; exact ⟨hr, hs, by rw [← hs]; exact SH_sub k5 k6 k7 q2 q3⟩
  case sl tg off s es =>
    obtain ⟨rfl, h⟩ := h
    obtain ⟨hh, k1, h⟩ := bind_some h
    obtain ⟨l, k2, h⟩ := bind_some h
    simp at h; subst h
    have hx0 := hx
    simp only [VRel] at hx
    have hlen : ∀ {hh l : Nat}, hh ≤ es.length → ((es.take hh).drop l).length = hh - l := by intro hh l _; simp; omega
    have sub : ∀ {b o : Nat}, ERel c w (szOf P e) es b o → ERel c w (szOf P e) ((es.take hh).drop l) b (o + l * szOf P e) := by
      intro b o hE
      refine ERel_of _ _ (fun i el hi => ?_)
      have : es[l + i]? = some el := by
        rw [List.getElem?_drop, List.getElem?_take] at hi
        split at hi
        · exact hi
        · simp at hi
      have := ERel_get hE _ _ this
      rwa [Nat.add_mul, ← Nat.add_assoc] at this
    have htr : treeL ((es.take hh).drop l) = true := treeL_sub hx.1 _ _
    rcases hx.2 with ⟨h0, a, cap, rfl, z2, z3⟩ | ⟨h0, z1, z2, ⟨a, cap, rfl, z5, z6, z7⟩, z4⟩
    · obtain ⟨q1, q2, q3⟩ := run_bounds (P := P) (isS := true) hlo hhi k1 k2 z2
      refine ⟨.slice (if cap = l then a else a.map (·.add (l * szOf P e))) (hh - l) (cap - l), by simp [Instr.sliceAt, Instr.slice, run_underlying h1, q1, run_sizeOf' h7], ?_⟩
      simp only [VRel]
      refine ⟨htr, ?_⟩
      refine .inl ⟨h0, _, _, by rw [hlen q3], by rw [hlen q3]; omega, ?_⟩
      by_cases e0 : (es.take hh).drop l = []
      · exact .inl e0
      · have := List.length_pos_iff.2 e0
        rw [hlen q3] at this
        rcases z3 with z3 | ⟨b, o, rfl, hb, hE⟩
        · subst z3; simp at e0
        · right
          rw [if_neg (by omega)]
          exact ⟨b, o + l * szOf P e, by simp [Addr.add_lit], hb, sub hE⟩
    · obtain ⟨q1, q2, q3⟩ := run_bounds (P := P) (isS := true) hlo hhi k1 k2 z6
      refine ⟨.slice (if cap = l then a else a.map (·.add (l * szOf P e))) (hh - l) (cap - l), by simp [Instr.sliceAt, Instr.slice, run_underlying h1, q1, run_sizeOf' h7], ?_⟩
      simp only [VRel]
      refine ⟨htr, ?_⟩
      refine .inr ⟨h0, z1, z2, ?_, ?_⟩
      · rw [hlen q3, ← z2]; exact SH_sub z5 z6 z7 q2 q3
      · rw [Nat.add_mul]; exact sub z4

theorem run_sslc {t : TypeId} {x v : AV} {xv : Value} {lo hi : Option AV} {lov hiv : Option Value} (ht : P.underlying t = some .string) (hx : VRel c w x xv) (hlo : BRel c w lo lov) (hhi : BRel c w hi hiv) (h : aSslc x lo hi = some v) :
    ∃ r, (Instr.sliceAt t xv lov hiv none).run P w = .ok r w ∧ VRel c w v r := by
  cases x <;> simp [aSslc] at h
  simp only [VRel] at hx; subst hx
  obtain ⟨hh, k1, h⟩ := bind_some h
  obtain ⟨l, k2, h⟩ := bind_some h
  simp at h; subst h
  obtain ⟨q1, q2, q3⟩ := run_bounds (P := P) (isS := false) hlo hhi k1 k2 (Nat.le_refl _)
  refine ⟨_, by simp [Instr.sliceAt, Instr.slice, run_underlying ht, q1]; rfl, by simp only [VRel]⟩

end
end Go.Proofs.YtilbmpdeginabaaFw
