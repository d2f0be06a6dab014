/- Runs that answer: a run gives some value of which something holds; the rules for each form. Conditions: none beside each theorem's own. -/
import Derived.Test.YtilbmpdeginabaaFw22
set_option linter.unusedSimpArgs false
set_option linter.unusedVariables false
namespace Go.Proofs.YtilbmpdeginabaaFw
open Go

section
variable {α β : Type}

def Ok (X : Option α) (Q : α → Prop) : Prop := ∃ r, X = some r ∧ Q r

theorem Ok.pure {a : α} {Q : α → Prop} (h : Q a) : Ok (some a) Q := ⟨a, rfl, h⟩
theorem Ok.bind {X : Option α} {f : α → Option β} {P : α → Prop} {Q : β → Prop} (h : Ok X P) (k : ∀ a, P a → Ok (f a) Q) : Ok (X.bind f) Q := by
  obtain ⟨a, rfl, ha⟩ := h; exact k a ha
theorem Ok.mono {X : Option α} {P Q : α → Prop} (h : Ok X P) (k : ∀ a, P a → Q a) : Ok X Q := by
  obtain ⟨a, rfl, ha⟩ := h; exact ⟨a, rfl, k a ha⟩
theorem Ok.of_eq {X Y : Option α} {Q : α → Prop} (h : Ok Y Q) (e : X = Y) : Ok X Q := e ▸ h
theorem Ok.cndb {b : Bool} {X Y : Option α} {Q : α → Prop} (h : b = true → Ok X Q) (k : b = false → Ok Y Q) : Ok (cnd (.bool b) X Y) Q := by
  cases b
  · exact k rfl
  · exact h rfl
theorem Ok.cnd {p : Prop} [Decidable p] {X Y : Option α} {Q : α → Prop} (h : p → Ok X Q) (k : ¬ p → Ok Y Q) : Ok (cnd (.bool (decide p)) X Y) Q := by
  by_cases hp : p
  · simp only [hp, decide_true]; exact h hp
  · simp only [hp, decide_false]; exact k hp
theorem Ok.cndn {p : Prop} [Decidable p] {X Y : Option α} {Q : α → Prop} (h : ¬ p → Ok X Q) (k : p → Ok Y Q) : Ok (Go.Proofs.YtilbmpdeginabaaFw.cnd (.bool (!decide p)) X Y) Q := by
  by_cases hp : p
  · simp only [hp, decide_true]; exact k hp
  · simp only [hp, decide_false]; exact h hp
theorem Ok.cndnb {b : Bool} {X Y : Option α} {Q : α → Prop} (h : b = false → Ok X Q) (k : b = true → Ok Y Q) : Ok (Go.Proofs.YtilbmpdeginabaaFw.cnd (.bool (!b)) X Y) Q := by
  cases b
  · exact h rfl
  · exact k rfl
theorem Ok.ite {p : Prop} [Decidable p] {X Y : Option α} {Q : α → Prop} (h : p → Ok X Q) (k : ¬ p → Ok Y Q) : Ok (if p then X else Y) Q := by
  by_cases hp : p
  · rw [if_pos hp]; exact h hp
  · rw [if_neg hp]; exact k hp
theorem Ok.guard {p : Prop} [Decidable p] {X : Option α} {Q : α → Prop} (h : p) (k : Ok X Q) : Ok (if p then X else none) Q := by rw [if_pos h]; exact k

def St.setN (st : St) (n : Nat) : St := { st with n := n }

/-- a call on plain values -/
theorem Ok.call {R : Sys} {f : Nat} {xs : List AV} {st : St} {P : AV × Nat → Prop} {K : AV × St → Option β} {Q : β → Prop} (hc : Ok (R.call f xs st.n) P) (hp : ∀ x ∈ xs, Plain x)
    (k : ∀ r n', P (r, n') → Ok (K (r, st.setN n')) Q) : Ok ((clV R f 0 xs st).bind K) Q := by
  obtain ⟨⟨r, n'⟩, e, h⟩ := hc
  rw [call_plain hp e]; exact k r n' h

/-- a call on values that may be local arrays: 'ts' what they read as -/
theorem Ok.callL {R : Sys} {f : Nat} {xs ts : List AV} {st : St} {P : AV × Nat → Prop} {K : AV × St → Option β} {Q : β → Prop} (hr : mapO (res st) xs = some ts) (hc : Ok (R.call f ts st.n) P)
    (k : ∀ r n', P (r, n') → ∃ r', reloc (locs st xs) r = some r' ∧ Ok (K (r', st.setN n')) Q) : Ok ((clV R f 0 xs st).bind K) Q := by
  obtain ⟨⟨r, n'⟩, e, h⟩ := hc
  obtain ⟨r', h1, h2⟩ := k r n' h
  simp only [clV, hr, Option.bind_some, e, h1]; exact h2

theorem reloc_bool (ls : List (Nat × Nat)) (b : Bool) : reloc ls (.bool b) = some (.bool b) := by cases ls <;> rfl
theorem reloc_int (ls : List (Nat × Nat)) (k : IntKind) (b : Int) : reloc ls (.int k b) = some (.int k b) := by cases ls <;> rfl
theorem reloc_str (ls : List (Nat × Nat)) (b : ByteArray) : reloc ls (.str b) = some (.str b) := by cases ls <;> rfl
theorem reloc_nils (ls : List (Nat × Nat)) : reloc ls .nils = some .nils := by cases ls <;> rfl

theorem findLoc_no {t : Nat} : ∀ {ls : List (Nat × Nat)}, (∀ p ∈ ls, p.2 ≠ t) → findLoc t ls = none
  | [], _ => rfl
  | (j, u) :: l, h => by
    have : t ≠ u := fun e => h (j, u) List.mem_cons_self e.symm
    simp only [findLoc, this, if_false]
    exact findLoc_no fun p hp => h p (List.mem_cons_of_mem _ hp)

theorem noTag_of {ls : List (Nat × Nat)} {ts : List Nat} (h : ∀ t ∈ ts, ∀ p ∈ ls, p.2 ≠ t) : noTag ls ts = true := by
  simp only [noTag, List.all_eq_true]
  intro t ht
  rw [findLoc_no (h t ht)]; rfl

theorem relOne_same {ls : List (Nat × Nat)} {v : AV} (h1 : v.one = true) (h : ∀ t ∈ v.tags, ∀ p ∈ ls, p.2 ≠ t) : relOne ls v = some v := by
  cases v <;> simp [AV.one] at h1 <;> first
    | rfl
    | (rename_i t off s es
       simp only [AV.tags] at h
       simp only [relOne, findLoc_no (h t List.mem_cons_self), noTag_of (fun t ht => h t (List.mem_cons_of_mem _ ht)), cond_true])

theorem tagsL_mem : ∀ {l : List AV} {t : Nat}, t ∈ tagsL l ↔ ∃ v ∈ l, t ∈ v.tags
  | [], t => by simp [tagsL]
  | v :: l, t => by simp [tagsL, tagsL_mem]

theorem relVal_same {ls : List (Nat × Nat)} {v : AV} (hp : v.one = true ∨ ∃ cs, v = .agg cs ∧ cs.all AV.one = true) (h : ∀ t ∈ v.tags, ∀ p ∈ ls, p.2 ≠ t) : relVal ls v = some v := by
  rcases hp with h1 | ⟨cs, rfl, h1⟩
  · have := relOne_same h1 h
    cases v <;> simp [AV.one] at h1 <;> exact this
  · simp only [relVal]
    rw [mapO_same fun x hx => relOne_same (List.all_eq_true.1 h1 x hx) fun t ht => h t (by simp only [AV.tags]; exact tagsL_mem.2 ⟨x, hx, ht⟩)]; rfl

/-- a result none of whose slices is a local array of the caller -/
theorem reloc_same {ls : List (Nat × Nat)} {v : AV} (hp : v.one = true ∨ ∃ cs, v = .agg cs ∧ cs.all AV.one = true) (h : ∀ t ∈ v.tags, ∀ p ∈ ls, p.2 ≠ t) : reloc ls v = some v := by
  have := relVal_same hp h
  cases ls with
  | nil => rfl
  | cons p ls =>
    simp only [reloc]
    rcases hp with h1 | ⟨cs, rfl, h1⟩
    · cases v <;> simp [AV.one] at h1 <;> exact this
    · exact this

theorem reloc_tup {ls : List (Nat × Nat)} {vs : List AV} (h : ∀ v ∈ vs, (v.one = true ∨ ∃ cs, v = .agg cs ∧ cs.all AV.one = true) ∧ ∀ t ∈ v.tags, ∀ p ∈ ls, p.2 ≠ t) : reloc ls (.tup vs) = some (.tup vs) := by
  cases ls with
  | nil => rfl
  | cons p ls =>
    simp only [reloc, relTup]
    rw [mapO_same fun x hx => relVal_same (h x hx).1 (h x hx).2]; rfl

/-! ### memory by rules: a state is a base, with arrays made on it -/
theorem new_m (st : St) (s : Nat) (es : List AV) : (st.new s es).m = st.m + 1 := rfl
theorem new_n (st : St) (s : Nat) (es : List AV) : (st.new s es).n = st.n + 1 := rfl
theorem setN_m (st : St) (n : Nat) : (st.setN n).m = st.m := rfl
theorem setN_n (st : St) (n : Nat) : (st.setN n).n = n := rfl
theorem st0_m (n : Nat) : (st0 n).m = 0 := rfl
theorem st0_n (n : Nat) : (st0 n).n = n := rfl
theorem put_m (st : St) (j : Nat) (a : LArr) : (st.put j a).m = st.m := rfl
theorem put_n (st : St) (j : Nat) (a : LArr) : (st.put j a).n = st.n := rfl
theorem setN_setN (st : St) (n n' : Nat) : (st.setN n).setN n' = st.setN n' := rfl
theorem setN_st0 (n n' : Nat) : (st0 n).setN n' = st0 n' := rfl
theorem setN_self (st : St) : st.setN st.n = st := rfl

theorem mkNew_eq {e : AV} {st : St} {K : AV → St → Option α} (h : e.stor = true) (h0 : e.cells.length ≠ 0) : mkNew e st K = K (.ptr st.m st.n 0 0) (st.new e.cells.length [e]) := by
  unfold mkNew; rw [if_pos ⟨h, h0⟩]
theorem mkNew_agg {cs : List AV} {st : St} {K : AV → St → Option α} (h : cs.all AV.one = true) (h0 : cs.length ≠ 0) : mkNew (.agg cs) st K = K (.ptr st.m st.n 0 0) (st.new cs.length [.agg cs]) := mkNew_eq h h0
theorem mkNew_one {e : AV} {st : St} {K : AV → St → Option α} (h : e.one = true) : mkNew e st K = K (.ptr st.m st.n 0 0) (st.new 1 [e]) := by
  have : e.stor = true ∧ e.cells.length = 1 := by cases e <;> simp [AV.one] at h <;> exact ⟨rfl, rfl⟩
  rw [mkNew_eq this.1 (by rw [this.2]; omega), this.2]

theorem ld_top {st : St} {k : Nat} {es : List AV} {g : Bool} {s j t i f : Nat} (hj : j = st.m) (ht : t = st.n) : aLoad g s (st.new k es) (.ptr j t i f) = (es[i]?).bind fun e => ldCells g s (e.cells.drop f) := by
  subst hj; subst ht
  simp [aLoad, St.get, new_H]
theorem ld_old {st : St} {k : Nat} {es : List AV} {g : Bool} {s j t i f : Nat} (hj : j ≠ st.m) : aLoad g s (st.new k es) (.ptr j t i f) = aLoad g s st (.ptr j t i f) := by
  simp [aLoad, St.get, St.new, nbeq, hj]
theorem ld_setN {st : St} {n : Nat} {g : Bool} {s : Nat} {v : AV} : aLoad g s (st.setN n) v = aLoad g s st v := by cases v <;> rfl
theorem ld_put {st : St} {a : LArr} {g : Bool} {s j j' t i f : Nat} (hj : j ≠ j') : aLoad g s (st.put j' a) (.ptr j t i f) = aLoad g s st (.ptr j t i f) := by
  simp [aLoad, St.get, St.put, nbeq, hj]
theorem ld_eptr {st : St} {g : Bool} {s : Nat} {cs : List AV} : aLoad g s st (.eptr cs) = ldCells g s cs := rfl

theorem new_put {st : St} {k : Nat} {es es' : List AV} : (st.new k es).put st.m ⟨st.n, k, es'⟩ = st.new k es' := by
  simp only [St.new, St.put]; congr 1; funext i; cases Nat.beq i st.m <;> rfl
theorem put_new {st : St} {k j : Nat} {a : LArr} {es : List AV} (hj : j ≠ st.m) : (st.new k es).put j a = (st.put j a).new k es := by
  simp only [St.new, St.put]; congr 1; funext i
  simp only [nbeq]
  by_cases h : i = j
  · subst h; simp [hj]
  · simp [h]

theorem sto_top {st : St} {k : Nat} {es : List AV} {s j t i f : Nat} {v : AV} (hj : j = st.m) (ht : t = st.n) : aStore s (.ptr j t i f) v (st.new k es) =
    if v.stor = true ∧ v.cells.length = s then (es[i]?).bind fun e => (setElem f v.cells e).bind fun e' => some (st.new k (es.set i e')) else none := by
  subst hj; subst ht
  simp only [aStore, St.get, new_H, if_true, Option.bind_some, new_put]
theorem sto_old {st : St} {k : Nat} {es : List AV} {s j t i f : Nat} {v : AV} (hj : j ≠ st.m) : aStore s (.ptr j t i f) v (st.new k es) = (aStore s (.ptr j t i f) v st).bind fun s1 => some (s1.new k es) := by
  have e : (st.new k es).get j t = st.get j t := by simp [St.get, St.new, nbeq, hj]
  simp only [aStore, e]
  split
  · cases st.get j t with
    | none => rfl
    | some a =>
      simp only [Option.bind_some]
      cases a.es[i]? with
      | none => rfl
      | some x =>
        simp only [Option.bind_some]
        cases setElem f v.cells x with
        | none => rfl
        | some y => simp only [Option.bind_some, put_new hj]
  · rfl
theorem sto_setN {st : St} {n s j t i f : Nat} {v : AV} : aStore s (.ptr j t i f) v (st.setN n) = (aStore s (.ptr j t i f) v st).bind fun s1 => some (s1.setN n) := by
  have e : (st.setN n).get j t = st.get j t := rfl
  simp only [aStore, e]
  split
  · cases st.get j t with
    | none => rfl
    | some a =>
      simp only [Option.bind_some]
      cases a.es[i]? with
      | none => rfl
      | some x =>
        simp only [Option.bind_some]
        cases setElem f v.cells x with
        | none => rfl
        | some y => rfl
  · rfl

theorem faddr_ptr {off j t i f : Nat} : aFaddr off (.ptr j t i f) = some (.ptr j t i (f + off)) := rfl
theorem faddr_eptr {off : Nat} {cs : List AV} : aFaddr off (.eptr cs) = some (.eptr (cs.drop off)) := rfl

theorem resOne_plain {st : St} {g : AV → Option AV} {v : AV} (h : v.tree = true) (h1 : v.one = true) : resOne st g v = some v := by
  cases v <;> simp [AV.one] at h1 <;> first | rfl | simp [AV.tree] at h
theorem resTup_plain {st : St} {v : AV} (h : Plain v) : resTup st v = some v := by
  have := res_plain (st := st) h
  obtain ⟨_, h1 | ⟨cs, rfl, _⟩⟩ := h
  · cases v <;> first | exact this | simp [AV.one] at h1
  · exact this
theorem resTup_tup {st : St} {vs : List AV} (h : ∀ v ∈ vs, Plain v) : resTup st (.tup vs) = some (.tup vs) := by
  simp only [resTup]
  rw [mapO_same fun x hx => res_plain (h x hx)]; rfl
theorem retV_one (v : AV) : retV [v] = v := rfl
theorem retV_two (v w : AV) : retV [v, w] = .tup [v, w] := rfl
theorem retV_three (v w u : AV) : retV [v, w, u] = .tup [v, w, u] := rfl
theorem extr0 (v : AV) (vs : List AV) : aExtr 0 (.tup (v :: vs)) = some v := rfl
theorem extr1 (v w : AV) (vs : List AV) : aExtr 1 (.tup (v :: w :: vs)) = some w := rfl
theorem extr2 (v w u : AV) (vs : List AV) : aExtr 2 (.tup (v :: w :: u :: vs)) = some u := rfl

/-! ### slices that may be trees or local arrays: what they hold -/
def Arr (st : St) (s : Nat) (v : AV) (es : List AV) : Prop :=
  (v = .nils ∧ es = []) ∨ (∃ t off, v = .sl t off s es) ∨ ∃ j t off a, v = .lsl j t s off es.length ∧ st.get j t = some a ∧ off + es.length ≤ a.es.length ∧ (a.es.drop off).take es.length = es

theorem Arr.len {st : St} {s : Nat} {v : AV} {es : List AV} (h : Arr st s v es) : aLen v = some (.int .i64 es.length) := by
  rcases h with ⟨rfl, rfl⟩ | ⟨t, off, rfl⟩ | ⟨j, t, off, a, rfl, _⟩ <;> rfl

theorem Arr.sl {st : St} {s t off : Nat} {es : List AV} : Arr st s (.sl t off s es) es := .inr (.inl ⟨_, _, rfl⟩)
theorem Arr.nil {st : St} {s : Nat} : Arr st s .nils [] := .inl ⟨rfl, rfl⟩
theorem IsSl.arr {st : St} {s : Nat} {v : AV} {es : List AV} (h : IsSl s v es) : Arr st s v es := by
  rcases h with ⟨rfl, rfl⟩ | ⟨t, off, rfl⟩
  · exact .inl ⟨rfl, rfl⟩
  · exact .inr (.inl ⟨_, _, rfl⟩)

theorem Arr.at {st : St} {s : Nat} {v : AV} {es : List AV} (h : Arr st s v es) {i : Nat} (hi : i < es.length) (k : IntKind) : ∃ p, aIaddr s v (.int k (i : Int)) = some p ∧ ∀ g w, aLoad g w st p = ldCells g w es[i].cells := by
  rcases h with ⟨rfl, rfl⟩ | ⟨t, off, rfl⟩ | ⟨j, t, off, a, rfl, h1, h2, h3⟩
  · simp at hi
  · exact ⟨.eptr es[i].cells, by simp [aIaddr, hi], fun g w => rfl⟩
  · refine ⟨.ptr j t (off + i) 0, ?_, fun g w => ?_⟩
    · have : (i : Int) < es.length := by omega
      simp [aIaddr, this]
    · have e : a.es[off + i]? = some es[i] := by
        have e1 : ((a.es.drop off).take es.length)[i]? = es[i]? := by rw [h3]
        rw [List.getElem?_take_of_lt hi, List.getElem?_drop, List.getElem?_eq_getElem hi] at e1
        exact e1
      simp [aLoad, h1, e]

theorem ld_one {e : AV} (h : e.one = true) : ldCells false 1 e.cells = some e := by
  cases e <;> simp [AV.one] at h <;> rfl
theorem ld_agg {cs : List AV} {s : Nat} (h : cs.length = s) : ldCells true s (AV.agg cs).cells = some (.agg cs) := by
  subst h; simp [ldCells, AV.cells]

theorem Arr.slc {st : St} {s : Nat} {v : AV} {es : List AV} (h : Arr st s v es) {a b : Nat} {lo hi : Option AV} (hhi : aBound es.length es.length hi = some b) (hlo : aBound b 0 lo = some a) (hb : b ≤ es.length) (hab : a ≤ b) :
    ∃ v', aSlc s v lo hi = some v' ∧ Arr st s v' ((es.take b).drop a) := by
  rcases h with ⟨rfl, rfl⟩ | ⟨t, off, rfl⟩ | ⟨j, t, off, r, rfl, h1, h2, h3⟩
  · simp only [List.length_nil] at hhi
    exact ⟨.nils, by simp only [aSlc, hhi, hlo, Option.bind_some], by simp [Arr]⟩
  · exact ⟨.sl t (off + a) s ((es.take b).drop a), by simp only [aSlc, if_true, hhi, hlo, Option.bind_some], .inr (.inl ⟨_, _, rfl⟩)⟩
  · have hl : ((es.take b).drop a).length = b - a := by simp; omega
    refine ⟨.lsl j t s (off + a) (b - a), by simp only [aSlc, if_true, hhi, hlo, Option.bind_some], .inr (.inr ⟨j, t, off + a, r, by rw [hl], h1, by rw [hl]; omega, ?_⟩)⟩
    rw [hl]
    conv => rhs; rw [← h3]
    rw [List.take_take, Nat.min_eq_left hb, List.drop_take, List.drop_drop]

end

def isNils : AV → Bool
  | .nils => true
  | _ => false
def strOk (s : Nat) (y : AV) : Prop := isNils y = true ∨ stride y = some s

/-! ### one local array with known elements, at the array's start -/
def Loc (st : St) (j t s : Nat) (v : AV) (es : List AV) : Prop := v = .lsl j t s 0 es.length ∧ st.H j = some ⟨t, s, es⟩

theorem Loc.get {st : St} {j t s : Nat} {v : AV} {es : List AV} (h : Loc st j t s v es) : st.get j t = some ⟨t, s, es⟩ := get_H h.2
theorem Loc.arr {st : St} {j t s : Nat} {v : AV} {es : List AV} (h : Loc st j t s v es) : Arr st s v es :=
  .inr (.inr ⟨j, t, 0, _, h.1, h.get, by simp, by simp⟩)
theorem Loc.elems {st : St} {j t s : Nat} {v : AV} {es : List AV} (h : Loc st j t s v es) : elems st v = some es := by
  obtain ⟨rfl, h⟩ := h
  simp [Go.Proofs.YtilbmpdeginabaaFw.elems, get_H h]
theorem Loc.new {st : St} {s : Nat} {es : List AV} : Loc (st.new s es) st.m st.n s (.lsl st.m st.n s 0 es.length) es := ⟨rfl, new_H _ _ _⟩

/-- appended: a local array takes more -/
theorem Loc.app {st : St} {j t s : Nat} {v y : AV} {es ys : List AV} (h : Loc st j t s v es) (hy : Go.Proofs.YtilbmpdeginabaaFw.elems st y = some ys) (hs : strOk s y) (hl : es.length + ys.length ≤ 4294967296) :
    aApp s v y st = some (.lsl j st.n s 0 (es.length + ys.length), { st.put j ⟨st.n, s, es ++ ys⟩ with n := st.n + 1 }) := by
  have hg := h.get
  obtain ⟨rfl, h⟩ := h
  have hl' : es.length + ys.length ≤ maxNeed := hl
  unfold aApp
  rw [hy, Option.bind_some, if_pos (by cases y <;> simp_all [strOk, isNils, stride])]
  simp only [true_and, hl', if_true, hg, Option.bind_some, Nat.le_refl, List.take_length]

theorem nil_app {st : St} {s : Nat} {y : AV} {ys : List AV} (hy : elems st y = some ys) (hs : strOk s y) (hl : ys.length ≤ 4294967296) :
    aApp s .nils y st = some (.lsl st.m st.n s 0 ys.length, st.new s ys) := by
  have hl' : ys.length ≤ maxNeed := hl
  unfold aApp
  rw [hy, Option.bind_some, if_pos (by cases y <;> simp_all [strOk, isNils, stride])]
  simp only [hl', if_true]

theorem app_loc {st : St} {j s : Nat} {es ys : List AV} {k : Nat} (hk : k = es.length + ys.length) : Loc { st.put j ⟨st.n, s, es ++ ys⟩ with n := st.n + 1 } j st.n s (.lsl j st.n s 0 k) (es ++ ys) :=
  ⟨by rw [hk, List.length_append], by simp [St.put]⟩

theorem new_H_ne {st : St} {s j : Nat} {es : List AV} (h : j ≠ st.m) : (st.new s es).H j = st.H j := by simp [St.new, nbeq, h]
theorem put_H_ne {st : St} {i j : Nat} {a : LArr} (h : j ≠ i) : (st.put i a).H j = st.H j := by simp [St.put, nbeq, h]
theorem Loc.frame {st st' : St} {j t s : Nat} {v : AV} {es : List AV} (h : Loc st j t s v es) (e : st'.H j = st.H j) : Loc st' j t s v es := ⟨h.1, by rw [e]; exact h.2⟩

theorem elems_sl {st : St} {s : Nat} {v : AV} {es : List AV} (h : IsSl s v es) : elems st v = some es ∧ strOk s v := by
  rcases h with ⟨rfl, rfl⟩ | ⟨t, off, rfl⟩
  · exact ⟨rfl, .inl rfl⟩
  · exact ⟨rfl, .inr rfl⟩
theorem Arr.elems {st : St} {s : Nat} {v : AV} {es : List AV} (h : Arr st s v es) : elems st v = some es ∧ strOk s v := by
  rcases h with ⟨rfl, rfl⟩ | ⟨t, off, rfl⟩ | ⟨j, t, off, a, rfl, h1, h2, h3⟩
  · exact ⟨rfl, .inl rfl⟩
  · exact ⟨rfl, .inr rfl⟩
  · exact ⟨by simp only [Go.Proofs.YtilbmpdeginabaaFw.elems, h1, Option.bind_some, if_pos h2, h3], .inr rfl⟩

theorem Loc.res {st : St} {j t s : Nat} {v : AV} {es : List AV} (h : Loc st j t s v es) (hp : ∀ e ∈ es, Plain e) : res st v = some (.sl t 0 s es) := by
  obtain ⟨rfl, h⟩ := h; exact res_lsl h hp
theorem Loc.resTup {st : St} {j t s : Nat} {v : AV} {es : List AV} (h : Loc st j t s v es) (hp : ∀ e ∈ es, Plain e) : resTup st v = some (.sl t 0 s es) := by
  obtain ⟨rfl, h⟩ := h; exact res_lsl h hp

/-- a slice with plain elements, read -/
theorem Arr.res {st : St} {s : Nat} {v : AV} {es : List AV} (h : Arr st s v es) (hp : ∀ e ∈ es, Plain e) : ∃ T, res st v = some T ∧ IsSl s T es := by
  rcases h with ⟨rfl, rfl⟩ | ⟨t, off, rfl⟩ | ⟨j, t, off, a, rfl, h1, h2, h3⟩
  · exact ⟨.nils, rfl, .inl ⟨rfl, rfl⟩⟩
  · exact ⟨.sl t off s es, rfl, .inr ⟨_, _, rfl⟩⟩
  · refine ⟨.sl t off s es, ?_, .inr ⟨_, _, rfl⟩⟩
    show resOne st (resD st 5) (.lsl j t s off es.length) = _
    simp only [resOne, h1, Option.bind_some, if_pos h2, h3]
    rw [mapO_same fun x hx => resD_plain (hp x hx)]; rfl

end Go.Proofs.YtilbmpdeginabaaFw
