/- Working with the equations: what the operations give on known values. Conditions: none beside each theorem's own. -/
import Derived.Test.YtilbmpdeginabaaFw21
namespace Go.Proofs.YtilbmpdeginabaaFw
open Go

section
variable {α β : Type}

theorem aBin_lss (k : IntKind) (a b : Int) : aBin .lss (.int k a) (.int k b) = some (.bool (decide (a < b))) := by simp [aBin, iBin, isShift]
theorem aBin_leq (k : IntKind) (a b : Int) : aBin .leq (.int k a) (.int k b) = some (.bool (decide (a ≤ b))) := by simp [aBin, iBin, isShift]
theorem aBin_gtr (k : IntKind) (a b : Int) : aBin .gtr (.int k a) (.int k b) = some (.bool (decide (b < a))) := by simp [aBin, iBin, isShift]
theorem aBin_geq (k : IntKind) (a b : Int) : aBin .geq (.int k a) (.int k b) = some (.bool (decide (b ≤ a))) := by simp [aBin, iBin, isShift]
theorem aBin_eql (k : IntKind) (a b : Int) : aBin .eql (.int k a) (.int k b) = some (.bool (decide (a = b))) := by simp only [aBin, iBin, isShift, cond_false, if_true]; congr 2
theorem aBin_neq (k : IntKind) (a b : Int) : aBin .neq (.int k a) (.int k b) = some (.bool (decide (¬ a = b))) := by
  simp only [aBin, iBin, isShift, cond_false, if_true]; congr 2; by_cases h : a = b <;> simp [h]
theorem aBin_add (k : IntKind) (a b : Int) : aBin .add (.int k a) (.int k b) = some (.int k (k.wrap (a + b))) := by simp [aBin, iBin, isShift]
theorem aBin_sub (k : IntKind) (a b : Int) : aBin .sub (.int k a) (.int k b) = some (.int k (k.wrap (a - b))) := by simp [aBin, iBin, isShift]
theorem aBin_mul (k : IntKind) (a b : Int) : aBin .mul (.int k a) (.int k b) = some (.int k (k.wrap (a * b))) := by simp [aBin, iBin, isShift]
theorem aBin_quo (k : IntKind) (a b : Int) (h : b ≠ 0) : aBin .quo (.int k a) (.int k b) = some (.int k (k.wrap (a.tdiv b))) := by simp [aBin, iBin, isShift, h]
theorem aBin_rem (k : IntKind) (a b : Int) (h : b ≠ 0) : aBin .rem (.int k a) (.int k b) = some (.int k (a.tmod b)) := by simp [aBin, iBin, isShift, h]
theorem aBinb_eql (a b : Bool) : aBinb .eql (.bool a) (.bool b) = some (.bool (decide (a = b))) := by cases a <;> cases b <;> rfl
theorem aBinb_neq (a b : Bool) : aBinb .neq (.bool a) (.bool b) = some (.bool (decide (¬ a = b))) := by cases a <;> cases b <;> rfl
theorem aUn_not (a : Bool) : aUn .not (.bool a) = some (.bool (!a)) := rfl
theorem aUn_neg (k : IntKind) (a : Int) : aUn .neg (.int k a) = some (.int k (k.wrap (0 - a))) := rfl
theorem aConv_int (k j : IntKind) (a : Int) : aConv k (.int j a) = some (.int k (k.wrap a)) := rfl

theorem cnd_dec (p : Prop) [Decidable p] (X Y : Option α) : cnd (.bool (decide p)) X Y = if p then X else Y := by
  by_cases h : p <;> simp [h, cnd]
theorem cnd_ndec (p : Prop) [Decidable p] (X Y : Option α) : cnd (.bool (!decide p)) X Y = if p then Y else X := by
  by_cases h : p <;> simp [h, cnd]
theorem cnd_bool (b : Bool) (X Y : Option α) : cnd (.bool b) X Y = if b = true then X else Y := by cases b <;> rfl
theorem cnd_nbool (b : Bool) (X Y : Option α) : cnd (.bool (!b)) X Y = if b = true then Y else X := by cases b <;> rfl

theorem wrap64 {x : Int} (h : -9223372036854775808 ≤ x) (h' : x ≤ 9223372036854775807) : IntKind.wrap .i64 x = x := by
  simp [IntKind.wrap, IntKind.signed, IntKind.bits]
  (try split) <;> omega

theorem bind_some' (a : α) (f : α → Option β) : (some a).bind f = f a := rfl

/-! ### loops -/
def allF (p : Nat → Bool) : Nat → Nat → Bool
  | _, 0 => true
  | i, k + 1 => p i && allF p (i + 1) k

theorem allF_iff {p : Nat → Bool} : ∀ {k i : Nat}, allF p i k = true ↔ ∀ j, i ≤ j → j < i + k → p j = true
  | 0, i => by simp only [allF, true_iff]; intro j h h'; omega
  | k + 1, i => by
    simp only [allF, Bool.and_eq_true, allF_iff (k := k)]
    constructor
    · rintro ⟨h1, h2⟩ j h3 h4
      by_cases e : j = i
      · subst e; exact h1
      · exact h2 j (by omega) (by omega)
    · exact fun h => ⟨h i (Nat.le_refl i) (by omega), fun j h1 h2 => h j (by omega) (by omega)⟩

/-- a loop that goes on while p holds -/
theorem loop_all {ρ : Type} (Lp : Nat → Option ρ) (p : Nat → Bool) (n : Nat) (e r : ρ) (he : Lp n = some e) (hs : ∀ i, i < n → Lp i = if p i = true then Lp (i + 1) else some r) :
    ∀ k i, i + k = n → Lp i = some (if allF p i k = true then e else r)
  | 0, i, h => by simp only [allF, if_true]; rw [← he]; congr 1
  | k + 1, i, h => by
    rw [hs i (by omega)]
    by_cases hp : p i = true
    · have e1 : allF p i (k + 1) = allF p (i + 1) k := by simp [allF, hp]
      rw [if_pos hp, e1]; exact loop_all Lp p n e r he hs k (i + 1) (by omega)
    · have e1 : allF p i (k + 1) = false := by simp [allF, hp]
      rw [if_neg hp, e1, if_neg Bool.false_ne_true]

/-- the same, each round knowing that p held before -/
theorem loop_allp {ρ : Type} (Lp : Nat → Option ρ) (p : Nat → Bool) (n : Nat) (e r : ρ) (he : Lp n = some e) (hs : ∀ i, i < n → (∀ j, j < i → p j = true) → Lp i = if p i = true then Lp (i + 1) else some r) :
    ∀ k i, i + k = n → (∀ j, j < i → p j = true) → Lp i = some (if allF p i k = true then e else r)
  | 0, i, h, _ => by simp only [allF, if_true]; rw [← he]; congr 1
  | k + 1, i, h, hp0 => by
    rw [hs i (by omega) hp0]
    by_cases hp : p i = true
    · have e1 : allF p i (k + 1) = allF p (i + 1) k := by simp [allF, hp]
      rw [if_pos hp, e1]
      exact loop_allp Lp p n e r he hs k (i + 1) (by omega) fun j hj => by
        by_cases e : j = i
        · subst e; exact hp
        · exact hp0 j (by omega)
    · have e1 : allF p i (k + 1) = false := by simp [allF, hp]
      rw [if_neg hp, e1, if_neg Bool.false_ne_true]

/-- a loop that keeps something -/
theorem loop_inv {σ ρ : Type} (Lp : Nat → σ → Option ρ) (I : Nat → σ → Prop) (Q : ρ → Prop) (n : Nat) (he : ∀ s, I n s → ∃ r, Lp n s = some r ∧ Q r)
    (hs : ∀ i s, i < n → I i s → (∃ s', Lp i s = Lp (i + 1) s' ∧ I (i + 1) s') ∨ ∃ r, Lp i s = some r ∧ Q r) : ∀ k i s, i + k = n → I i s → ∃ r, Lp i s = some r ∧ Q r
  | 0, i, s, h, hi => by have : i = n := by omega
                         subst this; exact he s hi
  | k + 1, i, s, h, hi => by
    rcases hs i s (by omega) hi with ⟨s', h1, h2⟩ | h1
    · rw [h1]; exact loop_inv Lp I Q n he hs k (i + 1) s' (by omega) h2
    · exact h1

/-! ### trees that are slices -/
def All2 (R : α → β → Prop) : List α → List β → Prop
  | [], bs => bs = []
  | a :: l, bs => ∃ b r, bs = b :: r ∧ R a b ∧ All2 R l r

theorem All2.length {R : α → β → Prop} : ∀ {l : List α} {r : List β}, All2 R l r → l.length = r.length
  | [], r, h => by simp only [All2] at h; subst h; rfl
  | a :: l, r, h => by simp only [All2] at h; obtain ⟨b, r, rfl, _, h⟩ := h; simp [h.length]

theorem All2.get {R : α → β → Prop} : ∀ {l : List α} {r : List β}, All2 R l r → ∀ (i : Nat) (b : β), r[i]? = some b → ∃ a, l[i]? = some a ∧ R a b
  | [], r, h, i, b, hb => by simp only [All2] at h; subst h; simp at hb
  | a :: l, r, h, i, b, hb => by
    simp only [All2] at h
    obtain ⟨b', r, rfl, h1, h⟩ := h
    cases i with
    | zero => simp at hb; subst hb; exact ⟨a, rfl, h1⟩
    | succ i => exact h.get i b (by simpa using hb)

theorem All2.of {R : α → β → Prop} : ∀ {l : List α} {r : List β}, l.length = r.length → (∀ (i : Nat) (a : α) (b : β), l[i]? = some a → r[i]? = some b → R a b) → All2 R l r
  | [], r, h, _ => by simp only [All2]; exact List.length_eq_zero_iff.1 h.symm
  | a :: l, r, h, k => by
    cases r with
    | nil => simp at h
    | cons b r =>
      simp only [All2]
      exact ⟨b, r, rfl, k 0 a b rfl rfl, All2.of (by simpa using h) fun i a b ha hb => k (i + 1) a b (by simpa using ha) (by simpa using hb)⟩

theorem All2.append {R : α → β → Prop} : ∀ {l : List α} {r : List β} {l' : List α} {r' : List β}, All2 R l r → All2 R l' r' → All2 R (l ++ l') (r ++ r')
  | [], r, l', r', h, k => by simp only [All2] at h; subst h; exact k
  | a :: l, r, l', r', h, k => by
    simp only [All2] at h
    obtain ⟨b, r, rfl, h1, h⟩ := h
    simp only [List.cons_append, All2]
    exact ⟨b, _, rfl, h1, h.append k⟩

def IsSl (s : Nat) (v : AV) (es : List AV) : Prop := (v = .nils ∧ es = []) ∨ ∃ t off, v = .sl t off s es
def SlOf (s : Nat) (R : AV → α → Prop) (v : AV) (l : List α) : Prop := ∃ es, IsSl s v es ∧ All2 R es l

theorem SlOf.len {s : Nat} {R : AV → α → Prop} {v : AV} {l : List α} (h : SlOf s R v l) : aLen v = some (.int .i64 l.length) := by
  obtain ⟨es, h1, h2⟩ := h
  have := h2.length
  rcases h1 with ⟨rfl, rfl⟩ | ⟨t, off, rfl⟩
  · simp at this; simp [aLen, ← this]
  · simp [aLen, this]

theorem SlOf.idx {s : Nat} {R : AV → α → Prop} {v : AV} {l : List α} (h : SlOf s R v l) {i : Nat} {b : α} (hb : l[i]? = some b) : ∃ e, R e b ∧ ∀ k, aIaddr s v (.int k (i : Int)) = some (.eptr e.cells) := by
  obtain ⟨es, h1, h2⟩ := h
  obtain ⟨e, he, hr⟩ := h2.get i b hb
  rcases h1 with ⟨rfl, rfl⟩ | ⟨t, off, rfl⟩
  · simp at he
  · exact ⟨e, hr, fun k => by simp [aIaddr, he]⟩

theorem load_one {st : St} {e : AV} (h : e.one = true) : aLoad false 1 st (.eptr e.cells) = some e := by
  cases e <;> simp [AV.one] at h <;> rfl

theorem load_b {st : St} {b : Bool} : aLoad false 1 st (.eptr (AV.bool b).cells) = some (.bool b) := rfl
theorem load_i {st : St} {k : IntKind} {b : Int} : aLoad false 1 st (.eptr (AV.int k b).cells) = some (.int k b) := rfl
theorem load_s {st : St} {b : ByteArray} : aLoad false 1 st (.eptr (AV.str b).cells) = some (.str b) := rfl

def isT (v : AV) : Prop := v.tree = true ∧ v.one = true

theorem res_one {st : St} {v : AV} (h : v.tree = true) (h1 : v.one = true) : res st v = some v := by
  cases v <;> simp [AV.one] at h1 <;> first | rfl | simp [AV.tree] at h

theorem resTup_one {st : St} {v : AV} (h : v.tree = true) (h1 : v.one = true) : resTup st v = some v := by
  have := res_one (st := st) h h1
  cases v <;> first | exact this | simp [AV.one] at h1

theorem resTup_bool (st : St) (b : Bool) : resTup st (.bool b) = some (.bool b) := rfl
theorem resTup_int (st : St) (k : IntKind) (b : Int) : resTup st (.int k b) = some (.int k b) := rfl

theorem res_agg {st : St} {cs : List AV} (h : treeL cs = true) (h1 : cs.all AV.one = true) : res st (.agg cs) = some (.agg cs) := by
  have : ∀ (cs : List AV) (g : AV → Option AV), treeL cs = true → cs.all AV.one = true → mapO (resOne st g) cs = some cs := by
    intro cs g
    induction cs with
    | nil => intros; rfl
    | cons c cs ih =>
      intro h h1
      simp only [treeL, Bool.and_eq_true, List.all_cons] at h h1
      have : resOne st g c = some c := by
        have := h.1; have := h1.1
        cases c <;> simp_all [AV.one, AV.tree, resOne]
      simp only [mapO, this, Option.bind_some, ih h.2 h1.2]
  simp only [res, resD, resVal, this cs _ h h1, Option.bind_some]

/-- a value that may be handed over as it is -/
def Plain (v : AV) : Prop := v.tree = true ∧ (v.one = true ∨ ∃ cs, v = .agg cs ∧ cs.all AV.one = true)

theorem res_plain {st : St} {v : AV} (h : Plain v) : res st v = some v := by
  obtain ⟨h, h1 | ⟨cs, rfl, h1⟩⟩ := h
  · exact res_one h h1
  · exact res_agg (by simpa only [AV.tree] using h) h1

theorem locs_plain {st : St} : ∀ {xs : List AV}, (∀ x ∈ xs, Plain x) → mapO (res st) xs = some xs ∧ locs st xs = []
  | [], _ => ⟨rfl, rfl⟩
  | x :: xs, h => by
    obtain ⟨h1, h2⟩ := locs_plain (st := st) fun y hy => h y (List.mem_cons_of_mem _ hy)
    have hx := h x List.mem_cons_self
    refine ⟨by simp only [mapO, res_plain hx, Option.bind_some, h1], ?_⟩
    simp only [locs, List.flatMap_cons]
    have : locD st 6 x = [] := by
      have one : ∀ (v : AV) (g : AV → List (Nat × Nat)), v.tree = true → v.one = true → locOne st g v = [] := by
        intro v g a b
        cases v <;> simp [AV.one, AV.tree] at a b <;> rfl
      obtain ⟨a, b | ⟨cs, rfl, b⟩⟩ := hx
      · have := one x (locD st 5) a b
        cases x <;> simp [AV.one] at b <;> exact this
      · simp only [locD, locVal]
        refine List.flatMap_eq_nil_iff.2 fun y hy => one y _ ?_ (List.all_eq_true.1 b y hy)
        simp only [AV.tree] at a
        exact treeL_iff.1 a y hy
    rw [this, List.nil_append]; exact h2

/-- a call on plain values -/
theorem call_plain {R : Sys} {f : Nat} {xs : List AV} {st : St} {r : AV} {n' : Nat} (h : ∀ x ∈ xs, Plain x) (hc : R.call f xs st.n = some (r, n')) : clV R f 0 xs st = some (r, { st with n := n' }) := by
  obtain ⟨h1, h2⟩ := locs_plain h
  unfold clV
  rw [h1, Option.bind_some, hc, Option.bind_some, h2]
  rfl

theorem call_same {R : Sys} {f : Nat} {xs : List AV} {st : St} {r : AV} (h : ∀ x ∈ xs, Plain x) (hc : R.call f xs st.n = some (r, st.n)) : clV R f 0 xs st = some (r, st) := call_plain h hc

theorem plain_bool (b : Bool) : Plain (.bool b) := ⟨rfl, .inl rfl⟩
theorem plain_int (k : IntKind) (n : Int) : Plain (.int k n) := ⟨rfl, .inl rfl⟩
theorem plain_str (s : ByteArray) : Plain (.str s) := ⟨rfl, .inl rfl⟩
theorem plain_nils : Plain .nils := ⟨rfl, .inl rfl⟩
theorem plain1 {a : AV} (h : Plain a) : ∀ x ∈ [a], Plain x := by simp only [List.mem_singleton]; rintro x rfl; exact h
theorem plain2 {a b : AV} (h : Plain a) (k : Plain b) : ∀ x ∈ [a, b], Plain x := by
  intro x hx
  simp only [List.mem_cons, List.not_mem_nil, or_false] at hx
  rcases hx with rfl | rfl <;> assumption
theorem plain3 {a b c : AV} (h : Plain a) (k : Plain b) (l : Plain c) : ∀ x ∈ [a, b, c], Plain x := by
  intro x hx
  simp only [List.mem_cons, List.not_mem_nil, or_false] at hx
  rcases hx with rfl | rfl | rfl <;> assumption

theorem n_st0 (n : Nat) : (st0 n).n = n := rfl
theorem st_n (st : St) : { st with n := st.n } = st := rfl

/-! ### local arrays -/
theorem mkMake_ok {s : Nat} {z : AV} {len : Nat} {st : St} {K : AV → St → Option α} (h : len ≤ 4294967296) (h1 : z.stor = true) (h2 : z.cells.length = s) (h3 : s ≠ 0) :
    mkMake s z (.int .i64 len) (.int .i64 len) st K = K (.lsl st.m st.n s 0 len) (st.new s (List.replicate len z)) := by
  have h' : (len : Int) ≤ (maxNeed : Nat) := by unfold maxNeed; omega
  simp [mkMake, h1, h2, h3, h']

theorem get_H {st : St} {j t s : Nat} {es : List AV} (h : st.H j = some ⟨t, s, es⟩) : st.get j t = some ⟨t, s, es⟩ := by simp [St.get, h]

theorem store_one {st : St} {j t s : Nat} {es : List AV} {i : Nat} {v : AV} (h : st.H j = some ⟨t, s, es⟩) (hi : i < es.length) (h1 : es[i].one = true) (h2 : v.one = true) :
    aStore 1 (.ptr j t i 0) v st = some (st.put j ⟨t, s, es.set i v⟩) := by
  have hs : v.stor = true ∧ v.cells = [v] := by cases v <;> simp [AV.one] at h2 <;> exact ⟨rfl, rfl⟩
  have he : setElem 0 [v] es[i] = some v := by
    generalize es[i] = e at h1
    cases e <;> simp [AV.one] at h1 <;> rfl
  unfold aStore
  simp only [hs.1, hs.2, List.length_singleton, and_self, if_true, get_H h, Option.bind_some, List.getElem?_eq_getElem hi, he]

theorem iaddr_lsl {s j t len i : Nat} {k : IntKind} (h : i < len) : aIaddr s (.lsl j t s 0 len) (.int k i) = some (.ptr j t i 0) := by
  have : (i : Int) < len := by omega
  simp [aIaddr, this]

theorem put_H (st : St) (j : Nat) (a : LArr) : (st.put j a).H j = some a := by simp [St.put]
theorem new_H (st : St) (s : Nat) (es : List AV) : (st.new s es).H st.m = some ⟨st.n, s, es⟩ := by simp [St.new]

theorem mapO_same {g : AV → Option AV} : ∀ {l : List AV}, (∀ x ∈ l, g x = some x) → mapO g l = some l
  | [], _ => rfl
  | x :: l, h => by simp only [mapO, h x List.mem_cons_self, Option.bind_some, mapO_same fun y hy => h y (List.mem_cons_of_mem _ hy)]

theorem resD_plain {st : St} {d : Nat} {v : AV} (h : Plain v) : resD st (d + 1) v = some v := by
  obtain ⟨h, h1 | ⟨cs, rfl, h1⟩⟩ := h
  · simp only [resD]
    cases v <;> simp [AV.one] at h1 <;> first | rfl | simp [AV.tree] at h
  · simp only [resD, resVal]
    rw [mapO_same fun x hx => ?_]
    · rfl
    · have a := List.all_eq_true.1 h1 x hx
      have b : x.tree = true := treeL_iff.1 (by simpa only [AV.tree] using h) x hx
      cases x <;> simp_all [AV.one, AV.tree, resOne]

theorem res_lsl {st : St} {j t s : Nat} {es : List AV} (h : st.H j = some ⟨t, s, es⟩) (hp : ∀ e ∈ es, Plain e) : res st (.lsl j t s 0 es.length) = some (.sl t 0 s es) := by
  show resOne st (resD st 5) (.lsl j t s 0 es.length) = _
  simp only [resOne, get_H h, Option.bind_some, Nat.zero_add, Nat.le_refl, if_true, List.drop_zero, List.take_length]
  rw [mapO_same fun x hx => resD_plain (hp x hx)]; rfl

theorem resTup_lsl {st : St} {j t s : Nat} {es : List AV} (h : st.H j = some ⟨t, s, es⟩) (hp : ∀ e ∈ es, Plain e) : resTup st (.lsl j t s 0 es.length) = some (.sl t 0 s es) := res_lsl h hp

/-- a loop that fills a row of one-cell elements -/
theorem copy_loop {ρ : Type} {R : AV → α → Prop} (Lp : Nat → St → Option ρ) (l : List α) (t s j : Nat)
    (hs : ∀ (i : Nat) (st : St) (es : List AV) (b : α), l[i]? = some b → st.H j = some ⟨t, s, es⟩ → es.length = l.length → (∀ e ∈ es, Plain e ∧ e.one = true) →
      ∃ v n', R v b ∧ Plain v ∧ v.one = true ∧ st.n ≤ n' ∧ Lp i st = Lp (i + 1) { st.put j ⟨t, s, es.set i v⟩ with n := n' }) :
    ∀ (k i : Nat) (st : St) (es : List AV), i + k = l.length → st.H j = some ⟨t, s, es⟩ → es.length = l.length → (∀ e ∈ es, Plain e ∧ e.one = true) → (∀ q e b, q < i → es[q]? = some e → l[q]? = some b → R e b) →
      ∃ st' es', Lp i st = Lp l.length st' ∧ st'.H j = some ⟨t, s, es'⟩ ∧ All2 R es' l ∧ (∀ e ∈ es', Plain e ∧ e.one = true) ∧ st.n ≤ st'.n
  | 0, i, st, es, h, hH, hl, hp, hq => by
    have : i = l.length := by omega
    subst this
    exact ⟨st, es, rfl, hH, All2.of hl fun q e b he hb => hq q e b (by have := (List.getElem?_eq_some_iff.1 hb).1; omega) he hb, hp, Nat.le_refl _⟩
  | k + 1, i, st, es, h, hH, hl, hp, hq => by
    obtain ⟨v, n', h1, h2, h2', h3, h4⟩ := hs i st es l[i] (List.getElem?_eq_getElem (by omega)) hH hl hp
    obtain ⟨st', es', g1, g2, g3, g4, g5⟩ := copy_loop Lp l t s j hs k (i + 1) { st.put j ⟨t, s, es.set i v⟩ with n := n' } (es.set i v) (by omega) (by simp [St.put]) (by simp [hl])
      (fun e he => by
        rcases List.mem_or_eq_of_mem_set he with he | rfl
        · exact hp e he
        · exact ⟨h2, h2'⟩)
      (fun q e b hqi he hb => by
        by_cases eq : q = i
        · subst eq
          rw [List.getElem?_set_self (by omega)] at he
          rw [List.getElem?_eq_getElem (by omega)] at hb
          simp at he hb; subst he; subst hb; exact h1
        · rw [List.getElem?_set_ne (Ne.symm eq)] at he
          exact hq q e b (by omega) he hb)
    exact ⟨st', es', by rw [h4, g1], g2, g3, g4, Nat.le_trans h3 g5⟩

/-! ### what comes in -/
theorem All2.choose {R : AV → α → Prop} {P : α → Prop} : ∀ {xs : List AV}, (∀ x ∈ xs, ∃ b, R x b ∧ P b) → ∃ l, All2 R xs l ∧ ∀ b ∈ l, P b
  | [], _ => ⟨[], by simp only [All2], by simp⟩
  | x :: xs, h => by
    obtain ⟨b, h1, h2⟩ := h x List.mem_cons_self
    obtain ⟨l, h3, h4⟩ := All2.choose fun y hy => h y (List.mem_cons_of_mem _ hy)
    exact ⟨b :: l, by simp only [All2]; exact ⟨b, l, rfl, h1, h3⟩, fun c hc => by
      rcases List.mem_cons.1 hc with rfl | hc
      · exact h2
      · exact h4 c hc⟩

theorem has_sl {R : AV → α → Prop} {P : α → Prop} {t : CT} {v : AV} (h : CT.has (.sl false [t]) v) (k : ∀ x, t.has x → ∃ b, R x b ∧ P b) : ∃ l, SlOf 1 R v l ∧ l.length ≤ maxLen ∧ ∀ b ∈ l, P b := by
  simp only [CT.has] at h
  obtain ⟨xs, rfl, h1, h2⟩ := h
  obtain ⟨l, h3, h4⟩ := All2.choose (R := R) (P := P) (xs := xs) fun x hx => by
    rcases h2 x hx with ⟨h, _⟩ | ⟨_, h⟩
    · cases h
    · simp only [hasL] at h
      obtain ⟨c, r, e, h, _⟩ := h
      simp at e; obtain ⟨rfl, _⟩ := e
      exact k _ h
  exact ⟨l, ⟨xs, .inr ⟨_, _, rfl⟩, h3⟩, by rw [← h3.length]; exact h1, h4⟩

theorem has_sla {R : AV → α → Prop} {P : α → Prop} {ts : List CT} {v : AV} (h : CT.has (.sl true ts) v) (k : ∀ cs, hasL ts cs → ∃ b, R (.agg cs) b ∧ P b) : ∃ l, SlOf ts.length R v l ∧ l.length ≤ maxLen ∧ ∀ b ∈ l, P b := by
  simp only [CT.has] at h
  obtain ⟨xs, rfl, h1, h2⟩ := h
  obtain ⟨l, h3, h4⟩ := All2.choose (R := R) (P := P) (xs := xs) fun x hx => by
    rcases h2 x hx with ⟨_, cs, rfl, h⟩ | ⟨h, _⟩
    · exact k _ h
    · cases h
  exact ⟨l, ⟨xs, .inr ⟨_, _, rfl⟩, h3⟩, by rw [← h3.length]; exact h1, h4⟩

theorem arg_one {t : CT} {x : AV} (h : elHas false [t] x) : t.has x := by
  rcases h with ⟨h, _⟩ | ⟨_, h⟩
  · cases h
  · simp only [hasL] at h
    obtain ⟨c, r, e, h, _⟩ := h
    simp at e; obtain ⟨rfl, _⟩ := e
    exact h

theorem arg_agg {ts : List CT} {x : AV} (h : elHas true ts x) : ∃ cs, x = .agg cs ∧ hasL ts cs := by
  rcases h with ⟨_, h⟩ | ⟨h, _⟩
  · exact h
  · cases h

theorem args1 {a : Bool × List CT} {xs : List AV} (h : hasArgs [a] xs) : ∃ x, xs = [x] ∧ elHas a.1 a.2 x := by
  simp only [hasArgs] at h
  obtain ⟨x, r, rfl, h1, rfl⟩ := h
  exact ⟨x, rfl, h1⟩
theorem args2 {a b : Bool × List CT} {xs : List AV} (h : hasArgs [a, b] xs) : ∃ x y, xs = [x, y] ∧ elHas a.1 a.2 x ∧ elHas b.1 b.2 y := by
  simp only [hasArgs] at h
  obtain ⟨x, r, rfl, h1, y, r, rfl, h2, rfl⟩ := h
  exact ⟨x, y, rfl, h1, h2⟩
theorem args3 {a b c : Bool × List CT} {xs : List AV} (h : hasArgs [a, b, c] xs) : ∃ x y z, xs = [x, y, z] ∧ elHas a.1 a.2 x ∧ elHas b.1 b.2 y ∧ elHas c.1 c.2 z := by
  simp only [hasArgs] at h
  obtain ⟨x, r, rfl, h1, y, r, rfl, h2, z, r, rfl, h3, rfl⟩ := h
  exact ⟨x, y, z, rfl, h1, h2, h3⟩
theorem args4 {a b c d : Bool × List CT} {xs : List AV} (h : hasArgs [a, b, c, d] xs) : ∃ x y z u, xs = [x, y, z, u] ∧ elHas a.1 a.2 x ∧ elHas b.1 b.2 y ∧ elHas c.1 c.2 z ∧ elHas d.1 d.2 u := by
  simp only [hasArgs] at h
  obtain ⟨x, r, rfl, h1, y, r, rfl, h2, z, r, rfl, h3, u, r, rfl, h4, rfl⟩ := h
  exact ⟨x, y, z, u, rfl, h1, h2, h3, h4⟩

end

theorem IsSl.one {s : Nat} {v : AV} {es : List AV} (h : IsSl s v es) : v.one = true := by
  rcases h with ⟨rfl, rfl⟩ | ⟨t, off, rfl⟩ <;> rfl
theorem IsSl.tree {s : Nat} {v : AV} {es : List AV} (h : IsSl s v es) (k : treeL es = true) : v.tree = true := by
  rcases h with ⟨rfl, rfl⟩ | ⟨t, off, rfl⟩
  · rfl
  · simp only [AV.tree]; exact k
theorem SlOf.plain {α : Type} {s : Nat} {R : AV → α → Prop} {v : AV} {l : List α} (h : SlOf s R v l) (hR : ∀ e b, R e b → e.tree = true) : Plain v := by
  obtain ⟨es, h1, h2⟩ := h
  refine ⟨h1.tree (treeL_iff.2 fun x hx => ?_), .inl h1.one⟩
  obtain ⟨i, hi, rfl⟩ := List.mem_iff_getElem.1 hx
  have hl := h2.length
  obtain ⟨a, h3, h4⟩ := h2.get i (l[i]'(by omega)) (List.getElem?_eq_getElem (by omega))
  rw [List.getElem?_eq_getElem hi] at h3
  simp at h3; subst h3; exact hR _ _ h4
theorem SlOf.one {α : Type} {s : Nat} {R : AV → α → Prop} {v : AV} {l : List α} (h : SlOf s R v l) : v.one = true := by
  obtain ⟨es, h, _⟩ := h; exact h.one

/-- the elements alike -/
def eqAt {α : Type} [DecidableEq α] (l1 l2 : List α) (i : Nat) : Bool := decide (l1[i]? = l2[i]?)

theorem eqAt_all {α : Type} [DecidableEq α] {l1 l2 : List α} (hl : l1.length = l2.length) : allF (eqAt l1 l2) 0 l1.length = decide (l1 = l2) := by
  rw [Bool.eq_iff_iff, allF_iff, decide_eq_true_iff]
  constructor
  · intro h
    apply List.ext_getElem? fun i => ?_
    by_cases hi : i < l1.length
    · simpa [eqAt] using h i (Nat.zero_le i) (by omega)
    · rw [List.getElem?_eq_none (by omega), List.getElem?_eq_none (by omega)]
  · rintro rfl j _ _
    simp [eqAt]

def szM (left : Int) (len : Nat) : Int := if left - len < 0 then -1 else left - len

theorem nbeq (a b : Nat) : Nat.beq a b = decide (a = b) := by
  by_cases h : a = b
  · subst h; simp
  · simp only [h, decide_false]
    cases e : Nat.beq a b with
    | false => rfl
    | true => exact absurd (Nat.eq_of_beq_eq_true e) h

/-! ### parts of slices -/
theorem All2.take {α β : Type} {R : α → β → Prop} : ∀ {l : List α} {r : List β} (n : Nat), All2 R l r → All2 R (l.take n) (r.take n)
  | [], r, n, h => by simp only [All2] at h; subst h; simp [All2]
  | a :: l, r, 0, h => by simp [All2]
  | a :: l, r, n + 1, h => by
    simp only [All2] at h
    obtain ⟨b, r, rfl, h1, h⟩ := h
    simp only [List.take_succ_cons, All2]
    exact ⟨b, _, rfl, h1, h.take n⟩

theorem All2.drop {α β : Type} {R : α → β → Prop} : ∀ {l : List α} {r : List β} (n : Nat), All2 R l r → All2 R (l.drop n) (r.drop n)
  | [], r, n, h => by simp only [All2] at h; subst h; simp [All2]
  | a :: l, r, 0, h => by simpa using h
  | a :: l, r, n + 1, h => by
    simp only [All2] at h
    obtain ⟨b, r, rfl, _, h⟩ := h
    simpa using h.drop n

theorem aBound_int {len d : Nat} {k : IntKind} {i : Nat} (h : i ≤ len) : aBound len d (some (.int k i)) = some i := by
  have : (i : Int) ≤ len := by omega
  simp [aBound, this]

theorem SlOf.slc {α : Type} {s : Nat} {R : AV → α → Prop} {v : AV} {l : List α} (h : SlOf s R v l) {a b : Nat} {lo hi : Option AV} (hhi : aBound l.length l.length hi = some b) (hlo : aBound b 0 lo = some a) :
    ∃ v', aSlc s v lo hi = some v' ∧ SlOf s R v' ((l.take b).drop a) := by
  obtain ⟨es, h1, h2⟩ := h
  have hl := h2.length
  rcases h1 with ⟨rfl, rfl⟩ | ⟨t, off, rfl⟩
  · have hl0 : l.length = 0 := by simpa using hl.symm
    have hn : l = [] := List.length_eq_zero_iff.1 hl0
    subst hn
    simp only [List.length_nil] at hhi
    refine ⟨.nils, by simp only [aSlc, hhi, hlo, Option.bind_some], [], .inl ⟨rfl, rfl⟩, by simp [All2]⟩
  · rw [← hl] at hhi
    exact ⟨.sl t (off + a) s ((es.take b).drop a), by simp only [aSlc, if_true, hhi, hlo, Option.bind_some], _, .inr ⟨_, _, rfl⟩, (h2.take b).drop a⟩

theorem SlOf.upto {α : Type} {s : Nat} {R : AV → α → Prop} {v : AV} {l : List α} (h : SlOf s R v l) {k : IntKind} {i : Nat} (hi : i ≤ l.length) : ∃ v', aSlc s v none (some (.int k i)) = some v' ∧ SlOf s R v' (l.take i) := by
  obtain ⟨v', h1, h2⟩ := h.slc (lo := none) (aBound_int (k := k) hi) (a := 0) rfl
  exact ⟨v', h1, by simpa using h2⟩

/-! ### strings -/
theorem aSlen_str (b : ByteArray) : aSlen (.str b) = some (.int .i64 b.size) := rfl
theorem aSidx_str {b : ByteArray} {i : Nat} {k : IntKind} (h : i < b.size) : aSidx (.str b) (.int k i) = some (.int .u8 (b[i]).toNat) := by
  have : (0 : Int) ≤ i := by omega
  simp [aSidx, this, h]

end Go.Proofs.YtilbmpdeginabaaFw
