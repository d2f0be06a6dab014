/- A region in its text's order; what any order needs. Conditions: none beside each theorem's own. -/
import Derived.Test.YtilbmpdeginabaaFw12
import Derived.Tactics
namespace Go.Proofs.YtilbmpdeginabaaFw
open Go Go.RowKit
set_option linter.unusedSimpArgs false
set_option linter.unusedVariables false

theorem Took.ws {R : Sys} (CM : CallMono R.call) (IW : InlWS R.inl) {io : IOp} {A : Fr} {v : AV} {st st' : St} (h : Took R io A v st st') (W : WS st) : WS st' ∧ st.n ≤ st'.n := by
  rcases h with ⟨_, h⟩ | ⟨_, _, rfl⟩
  · exact opD_ws CM IW h W
  · exact ⟨W, Nat.le_refl _⟩

theorem Act.put_size (a : Act) (d : Option Nat) (v : Value) : (a.put d v).tmps.size = a.tmps.size := by cases d <;> simp [Act.put]
theorem Act.put_def (a : Act) (d : Option Nat) (v : Value) : (a.put d v).defers = a.defers := by cases d <;> rfl

theorem opsR_ws {R : Sys} (CM : CallMono R.call) (IW : InlWS R.inl) : ∀ {l : List IOp} {sk : List Nat} {A A' : Fr} {st st' : St}, opsR R l sk A st = some (A', st') → (∀ t ∈ sk, A t = .tup []) → WS st → WS st' ∧ st.n ≤ st'.n
  | [], sk, A, A', st, st', h, _, W => by simp [opsR] at h; rw [← h.2]; exact ⟨W, Nat.le_refl _⟩
  | o :: os, sk, A, A', st, st', h, hs, W => by
    simp only [opsR] at h
    obtain ⟨⟨sk1, A1, st1⟩, h1, h2⟩ := bind_some h
    obtain ⟨v, e1, t1, s1⟩ := stepO_took h1 hs
    obtain ⟨W1, n1⟩ := t1.ws CM IW W
    obtain ⟨W2, n2⟩ := opsR_ws CM IW h2 s1 W1
    exact ⟨W2, Nat.le_trans n1 n2⟩

section
variable {P : Program} {base : Nat}

theorem seq_ok {R : Sys} {h : Hint} {cur nt : Nat} {ops : Array Oper} {Q : Exit → Act → World → Prop} (SO : SysOk P R) : ∀ (rest : List Oper) (k : Nat), (∀ j, rest[j]? = ops[k + j]?) →
    ∀ (sk : List Nat) (A A' : Fr) (st st' : St) (c : Cx) (w : World) (a : Act), opsR R (rest.map (compOper P h cur nt ops)) sk A st = some (A', st') → (∀ t ∈ sk, A t = .tup []) → WS st →
    FRel c w A a → a.tmps.size = nt → Sim c w st.H base → (∀ t, st.n ≤ t → t < st'.n → Free c t) →
    (∀ c' w' a', a'.tmps.size = nt → a'.defers = a.defers → FRel c' w' A' a' → Post c w base st.n st'.n c' w' → Sim c' w' st'.H base → Q .normal a' w') → wpOps P ops Q (List.range' k rest.length) a w := by
  intro rest
  induction rest with
  | nil =>
    intro k _ sk A A' st st' c w a hr hs W hA hz S F K
    simp [opsR] at hr
    obtain ⟨rfl, rfl⟩ := hr
    simp only [List.length_nil, List.range'_zero, wpOps]
    exact K c w a hz rfl hA (Post.same _ _ _ _ _) S
  | cons o rest ih =>
    intro k hk sk A A' st st' c w a hr hs W hA hz S F K
    simp only [List.map_cons, opsR] at hr
    obtain ⟨⟨sk1, A1, st1⟩, h1, h2⟩ := bind_some hr
    obtain ⟨v, rfl, t1, s1⟩ := stepO_took h1 hs
    obtain ⟨W1, n1⟩ := t1.ws SO.mono SO.ws W
    obtain ⟨W2, n2⟩ := opsR_ws SO.mono SO.ws h2 s1 W1
    simp only [List.length_cons, List.range'_succ]
    rw [wpOps_cons]
    refine opAt SO (by have := hk 0; simpa using this.symm) hA hz S t1 (fun t a b => F t a (Nat.lt_of_lt_of_le b n2)) (fun i b _ hb => Nat.ne_of_lt (W i b hb).1) (fun _ => W) ?_
    intro c1 w1 x hd hlt p1 p2 p3
    refine ih (k + 1) (fun j => by have := hk (j + 1); simpa [Nat.add_assoc, Nat.add_comm 1 j] using this) sk1 _ A' st1 st' c1 w1 _ h2 s1 W1 ?_ (by rw [Act.put_size]; exact hz) p2 (fun t a b => p1.free (fun q => by omega) (F t (by omega) b)) ?_
    · rw [hd]
      exact FRel_put (FRel_ex p1.ex hA) p3 (fun d hd => by rw [hz]; exact hlt d hd)
    · intro c2 w2 a2 q1 q2 q3 q4 q5
      exact K c2 w2 a2 q1 (q2.trans (Act.put_def _ _ _)) q3 (p1.trans q4 (Nat.le_refl _) n2 n1 (Nat.le_refl _)) q5

/-! ### operations under another frame, another state -/

theorem fillBuild_congr {f g : Opd → AV} : ∀ {ps : List (Nat × Nat × Opd)} {cs : List AV}, (∀ p ∈ ps, f p.2.2 = g p.2.2) → fillBuild f ps cs = fillBuild g ps cs
  | [], _, _ => rfl
  | (o, s, x) :: ps, cs, h => by
    have := h (o, s, x) (by simp)
    simp only [fillBuild]
    simp only at this
    rw [this, fillBuild_congr fun p hp => h p (List.mem_cons_of_mem _ hp)]

theorem fillSlice_congr {f g : Opd → AV} {s : Nat} : ∀ {ps : List (Nat × Opd)} {cs : List AV}, (∀ p ∈ ps, f p.2 = g p.2) → fillSlice f s ps cs = fillSlice g s ps cs
  | [], _, _ => rfl
  | (i, x) :: ps, cs, h => by
    have := h (i, x) (by simp)
    simp only [fillSlice]
    simp only at this
    rw [this, fillSlice_congr fun p hp => h p (List.mem_cons_of_mem _ hp)]

theorem ev_congr {A A' : Fr} {x : Opd} (h : ∀ t ∈ opdT x, A t = A' t) : ev A x = ev A' x := by
  cases x with
  | t i => exact h i (by simp [opdT])
  | c v => rfl

theorem evO_congr {A A' : Fr} {x : Option Opd} (h : ∀ t ∈ oT x, A t = A' t) : x.map (ev A) = x.map (ev A') := by
  cases x with
  | none => rfl
  | some x => simp only [Option.map_some]; rw [ev_congr h]

theorem opD_congr {R : Sys} {io : AOp} {A A' : Fr} {st : St} (h : ∀ t ∈ opT io, A t = A' t) : opD R io A st = opD R io A' st := by
  cases io <;> simp only [opT, List.mem_append, List.mem_flatMap, or_imp, forall_and] at h <;> simp only [opD, opK]
  case build z ps => rw [fillBuild_congr fun p hp => ev_congr fun t ht => h t ⟨p, hp, ht⟩]
  case bslice len s z ps => rw [fillSlice_congr fun p hp => ev_congr fun t ht => h t ⟨p, hp, ht⟩]
  case call f as inl d =>
    have : as.map (ev A) = as.map (ev A') := List.map_congr_left fun x hx => ev_congr fun t ht => h t ⟨x, hx, ht⟩
    rw [this]
  case pick c a b => rw [ev_congr h.1.1, ev_congr h.1.2, ev_congr h.2]
  case slc s x lo hi => rw [ev_congr h.1.1, evO_congr h.1.2, evO_congr h.2]
  case sslc x lo hi => rw [ev_congr h.1.1, evO_congr h.1.2, evO_congr h.2]
  all_goals
    first
    | rfl
    | rw [ev_congr h]
    | rw [ev_congr h.1, ev_congr h.2]

theorem Took.frame {R : Sys} {io : IOp} {A A' : Fr} {v : AV} {st st' : St} (h : Took R io A v st st') (hA : ∀ t ∈ iopT io, A t = A' t) : Took R io A' v st st' := by
  have e : opD R io.op A st = opD R io.op A' st := opD_congr fun t ht => hA t (by unfold iopT; exact List.mem_append_right _ ht)
  rcases h with ⟨hw, h⟩ | ⟨hu, h⟩
  · refine .inl ⟨?_, by rw [← e]; exact h⟩
    unfold wants at hw ⊢
    split at hw
    · trivial
    · rename_i g want hg; rw [← hA g (by unfold iopT; rw [hg]; simp)]; exact hw
  · refine .inr ⟨?_, h⟩
    unfold unwants at hu ⊢
    split at hu
    · exact hu.elim
    · rename_i g want hg; rw [← hA g (by unfold iopT; rw [hg]; simp)]; exact hu

/-- one memory inside another -/
def HLe (H H' : Nat → Option LArr) : Prop := ∀ j a, H j = some a → H' j = some a

theorem get_le {st st' : St} (L : HLe st.H st'.H) {j t : Nat} {a : LArr} (h : st.get j t = some a) : st'.get j t = some a := by
  obtain ⟨h1, h2⟩ := get_some h
  unfold St.get
  rw [L j a h1]; simp [h2]

theorem elems_le {st st' : St} (L : HLe st.H st'.H) {x : AV} {es : List AV} (h : elems st x = some es) : elems st' x = some es := by
  cases x <;> simp only [elems] at h ⊢ <;> try exact h
  case lsl j t s off len =>
    obtain ⟨a, g, h⟩ := bind_some h
    rw [get_le L g, Option.bind_some]; exact h

theorem aLoad_le {st st' : St} (L : HLe st.H st'.H) {g : Bool} {s : Nat} {x v : AV} (h : aLoad g s st x = some v) : aLoad g s st' x = some v := by
  cases x <;> simp only [aLoad] at h ⊢ <;> try exact h
  case ptr j t i f =>
    obtain ⟨a, g, h⟩ := bind_some h
    rw [get_le L g, Option.bind_some]; exact h

theorem aB2s_le {st st' : St} (L : HLe st.H st'.H) {x v : AV} (h : aB2s st x = some v) : aB2s st' x = some v := by
  unfold aB2s at h ⊢
  obtain ⟨es, e, h⟩ := bind_some h
  rw [elems_le L e, Option.bind_some]; exact h

theorem mapO_le {f g : AV → Option AV} (h : ∀ a r, f a = some r → g a = some r) : ∀ {l r : List AV}, mapO f l = some r → mapO g l = some r
  | [], r, e => e
  | a :: l, r, e => by
    simp only [mapO] at e ⊢
    obtain ⟨b, h1, e⟩ := bind_some e
    obtain ⟨q, h2, e⟩ := bind_some e
    rw [h _ _ h1, Option.bind_some, mapO_le h h2, Option.bind_some]; exact e

theorem resOne_le {st st' : St} (L : HLe st.H st'.H) {f g : AV → Option AV} (h : ∀ a r, f a = some r → g a = some r) {a r : AV} (e : resOne st f a = some r) : resOne st' g a = some r := by
  cases a <;> simp only [resOne] at e ⊢ <;> try exact e
  case lsl j t s off len =>
    obtain ⟨b, h1, e⟩ := bind_some e
    obtain ⟨h2, e⟩ := if_some e
    obtain ⟨q, h3, e⟩ := bind_some e
    rw [get_le L h1, Option.bind_some, if_pos h2, mapO_le h h3, Option.bind_some]; exact e

theorem resVal_le {st st' : St} (L : HLe st.H st'.H) {f g : AV → Option AV} (h : ∀ a r, f a = some r → g a = some r) {a r : AV} (e : resVal st f a = some r) : resVal st' g a = some r := by
  cases a
  case agg cs =>
    simp only [resVal] at e ⊢
    obtain ⟨q, h3, e⟩ := bind_some e
    rw [mapO_le (fun a r => resOne_le L h) h3, Option.bind_some]; exact e
  all_goals exact resOne_le L h (by simpa only [resVal] using e)

theorem resD_le {st st' : St} (L : HLe st.H st'.H) : ∀ (d : Nat) (a r : AV), resD st d a = some r → resD st' d a = some r
  | 0, a, r, e => by simp [resD] at e
  | d + 1, a, r, e => resVal_le L (resD_le L d) e

theorem flat_congr {f g : AV → List (Nat × Nat)} {q : AV → Option AV} (h : ∀ a r, q a = some r → f a = g a) : ∀ {l r : List AV}, mapO q l = some r → l.flatMap f = l.flatMap g
  | [], r, e => rfl
  | a :: l, r, e => by
    simp only [mapO] at e
    obtain ⟨b, h1, e⟩ := bind_some e
    obtain ⟨q, h2, e⟩ := bind_some e
    simp only [List.flatMap_cons]
    rw [h _ _ h1, flat_congr h h2]

theorem locOne_le {st st' : St} (L : HLe st.H st'.H) {f g : AV → List (Nat × Nat)} {q : AV → Option AV} (h : ∀ a r, q a = some r → f a = g a) {a r : AV} (e : resOne st q a = some r) : locOne st f a = locOne st' g a := by
  cases a <;> simp only [resOne] at e <;> simp only [locOne]
  case lsl j t s off len =>
    obtain ⟨b, h1, e⟩ := bind_some e
    obtain ⟨h2, e⟩ := if_some e
    obtain ⟨q, h3, e⟩ := bind_some e
    rw [h1, get_le L h1]
    simp only
    rw [flat_congr h h3]

theorem locVal_le {st st' : St} (L : HLe st.H st'.H) {f g : AV → List (Nat × Nat)} {q : AV → Option AV} (h : ∀ a r, q a = some r → f a = g a) {a r : AV} (e : resVal st q a = some r) : locVal st f a = locVal st' g a := by
  cases a
  case agg cs =>
    simp only [resVal] at e
    obtain ⟨q, h3, e⟩ := bind_some e
    simp only [locVal]
    exact flat_congr (fun a r => locOne_le L h) h3
  all_goals exact locOne_le L h (by simpa only [resVal] using e)

theorem locD_le {st st' : St} (L : HLe st.H st'.H) : ∀ (d : Nat) (a r : AV), resD st d a = some r → locD st d a = locD st' d a
  | 0, a, r, e => rfl
  | d + 1, a, r, e => locVal_le L (locD_le L d) e

theorem locs_le {st st' : St} (L : HLe st.H st'.H) {as rs : List AV} (e : mapO (res st) as = some rs) : locs st as = locs st' as :=
  flat_congr (locD_le L 6) e

theorem clV_le {R : Sys} {f : Nat} {args : List AV} {st st' : St} {v : AV} {H : Nat → Option LArr} (h : clV R f 0 args st = some (v, st')) (L : HLe st.H H) :
    clV R f 0 args ⟨H, st.m, st.n⟩ = some (v, ⟨H, st'.m, st'.n⟩) := by
  unfold clV at h ⊢
  obtain ⟨as, h1, hA⟩ := bind_some h
  obtain ⟨⟨r, n'⟩, h2, hB⟩ := bind_some hA
  simp only at hB
  obtain ⟨v', h3, hB⟩ := bind_some hB
  simp at hB; obtain ⟨rfl, rfl⟩ := hB
  have L' : HLe st.H (St.mk H st.m st.n).H := L
  have e1 : mapO (res ⟨H, st.m, st.n⟩) args = some as := mapO_le (resD_le L' 6) h1
  rw [e1, Option.bind_some, h2, Option.bind_some]
  simp only
  rw [← locs_le L' h1, h3, Option.bind_some]

theorem new_le {st : St} {H : Nat → Option LArr} {s : Nat} {es : List AV} (L : HLe (st.new s es).H H) : (St.mk H st.m st.n).new s es = ⟨H, (st.new s es).m, (st.new s es).n⟩ := by
  have : H st.m = some { tag := st.n, s := s, es := es } := L _ _ (by simp [St.new])
  simp only [St.new, St.mk.injEq, and_true]
  funext i
  cases e : Nat.beq i st.m with
  | true => rw [Nat.eq_of_beq_eq_true e, this]; rfl
  | false => rfl

/-- numbers alone -/
theorem op0 {R : Sys} {io : AOp} {A : Fr} {st st' : St} {v : AV} (hc : cls io = 0) (h : opD R io A st = some (v, st')) : st' = st ∧ ∀ su, opD R io A su = some (v, su) := by
  have key : ∀ {x : Option AV}, (x.bind fun v => some (v, st)) = some (v, st') → st' = st ∧ ∀ su : St, (x.bind fun v => some (v, su)) = some (v, su) := fun h => by
    obtain ⟨h1, h2⟩ := valD h
    exact ⟨h2, fun su => by rw [h1]; rfl⟩
  cases io <;> simp only [cls] at hc <;> simp only [opD, opK] at h ⊢
  case mv => simp at h; exact ⟨h.2.symm, fun su => by rw [h.1]⟩
  case build => obtain ⟨cs, h1, h⟩ := bind_some h; simp at h; exact ⟨h.2.symm, fun su => by rw [h1, Option.bind_some, h.1]⟩
  case call f as inl d => exfalso; cases h : (inl || !Nat.beq d 0) <;> rw [h] at hc <;> cases hc
  all_goals first | exact key h | (simp at hc; done)

/-- what only reads the local arrays or makes new ones -/
theorem op1n {R : Sys} (CM : CallMono R.call) {io : AOp} {A : Fr} {st st' : St} {v : AV} (hc : cls io = 1) (h : opD R io A st = some (v, st')) :
    (st'.H = st.H ∧ st'.m = st.m ∧ st.n ≤ st'.n) ∨ (∃ s es, st' = st.new s es) := by
  cases io <;> simp only [cls] at hc <;> simp only [opD, opK] at h
  case alloc e => obtain ⟨h1, h⟩ := if_some h; simp at h; obtain ⟨rfl, rfl⟩ := h; exact .inr ⟨_, _, rfl⟩
  case box e => obtain ⟨h1, h⟩ := if_some h; simp at h; obtain ⟨rfl, rfl⟩ := h; exact .inr ⟨_, _, rfl⟩
  case bslice len s z ps =>
    obtain ⟨h1, h⟩ := if_some h
    obtain ⟨cs, h2, h⟩ := bind_some h
    simp at h; obtain ⟨rfl, rfl⟩ := h; exact .inr ⟨_, _, rfl⟩
  case load g s x => obtain ⟨h1, rfl⟩ := valD h; exact .inl ⟨rfl, rfl, Nat.le_refl _⟩
  case b2s x => obtain ⟨h1, rfl⟩ := valD h; exact .inl ⟨rfl, rfl, Nat.le_refl _⟩
  case mkslice s z x y =>
    split at h
    · obtain ⟨h1, h⟩ := if_some h; simp at h; obtain ⟨rfl, rfl⟩ := h; exact .inr ⟨_, _, rfl⟩
    · simp at h
  case call f as inl d =>
    cases inl with
    | true => simp at hc
    | false =>
      cases d with
      | succ d => exact absurd hc (by simp [Nat.beq])
      | zero =>
        simp only [cond_false] at h
        obtain ⟨⟨r, s'⟩, h1, h⟩ := bind_some h
        simp at h; obtain ⟨rfl, rfl⟩ := h
        unfold clV at h1
        obtain ⟨as', q1, hA⟩ := bind_some h1
        obtain ⟨⟨r', n'⟩, q2, hB⟩ := bind_some hA
        simp only at hB
        obtain ⟨v', q3, hB⟩ := bind_some hB
        simp at hB; obtain ⟨rfl, rfl⟩ := hB
        exact .inl ⟨rfl, rfl, CM _ _ _ _ _ q2⟩
  case appn s x y =>
    split at h
    · obtain ⟨r, h1, h⟩ := bind_some h
      simp at h; obtain ⟨rfl, rfl⟩ := h
      unfold aApp at h1
      obtain ⟨ys, q1, h1⟩ := bind_some h1
      obtain ⟨q2, h1⟩ := if_some h1
      simp only at h1
      obtain ⟨q3, h1⟩ := if_some h1
      simp at h1; subst h1
      exact .inr ⟨_, _, rfl⟩
    · simp at h
  all_goals (simp at hc; done)

theorem op1 {R : Sys} {io : AOp} {A : Fr} {st st' : St} {v : AV} {H : Nat → Option LArr} (hc : cls io = 1) (h : opD R io A st = some (v, st')) (L : HLe st.H H) (L' : HLe st'.H H) :
    opD R io A ⟨H, st.m, st.n⟩ = some (v, ⟨H, st'.m, st'.n⟩) := by
  have L0 : HLe st.H (St.mk H st.m st.n).H := L
  cases io <;> simp only [cls] at hc <;> simp only [opD, opK] at h ⊢
  case alloc e =>
    obtain ⟨h1, h⟩ := if_some h; simp at h; obtain ⟨rfl, rfl⟩ := h
    rw [if_pos h1, new_le L']
  case box e =>
    obtain ⟨h1, h⟩ := if_some h; simp at h; obtain ⟨rfl, rfl⟩ := h
    rw [if_pos h1, new_le L']
  case bslice len s z ps =>
    obtain ⟨h1, h⟩ := if_some h
    obtain ⟨cs, h2, h⟩ := bind_some h
    simp at h; obtain ⟨rfl, rfl⟩ := h
    rw [if_pos h1, h2, Option.bind_some, new_le L']
  case load g s x =>
    obtain ⟨h1, rfl⟩ := valD h
    rw [aLoad_le L0 h1]; rfl
  case b2s x =>
    obtain ⟨h1, rfl⟩ := valD h
    rw [aB2s_le L0 h1]; rfl
  case mkslice s z x y =>
    split at h
    · rename_i l c e1 e2
      obtain ⟨h1, h⟩ := if_some h; simp at h; obtain ⟨rfl, rfl⟩ := h
      simp only [if_pos h1]
      rw [new_le L']
    · simp at h
  case call f as inl d =>
    cases inl with
    | true => simp at hc
    | false =>
      cases d with
      | succ d => exact absurd hc (by simp [Nat.beq])
      | zero =>
        simp only [cond_false] at h ⊢
        obtain ⟨⟨r, s'⟩, h1, h⟩ := bind_some h
        simp at h; obtain ⟨rfl, rfl⟩ := h
        rw [clV_le h1 L, Option.bind_some]
  case appn s x y =>
    split at h
    · rename_i e1
      obtain ⟨r, h1, h⟩ := bind_some h
      simp at h; obtain ⟨rfl, rfl⟩ := h
      unfold aApp at h1
      obtain ⟨ys, q1, h1⟩ := bind_some h1
      obtain ⟨q2, h1⟩ := if_some h1
      simp only at h1
      obtain ⟨q3, h1⟩ := if_some h1
      simp at h1; subst h1
      simp only [e1]
      unfold aApp
      rw [elems_le L0 q1, Option.bind_some, if_pos q2]
      simp only [if_pos q3, Option.bind_some]
      rw [new_le L']
    · simp at h
  all_goals (simp at hc; done)

end
end Go.Proofs.YtilbmpdeginabaaFw
