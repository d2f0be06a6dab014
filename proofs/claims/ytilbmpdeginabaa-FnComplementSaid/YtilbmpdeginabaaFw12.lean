/- A region's operations in their order. Conditions: none beside each theorem's own. -/
import Derived.Test.YtilbmpdeginabaaFw11
namespace Go.Proofs.YtilbmpdeginabaaFw
open Go Go.RowKit
set_option linter.unusedSimpArgs false
set_option linter.unusedVariables false

def stepO (R : Sys) (o : IOp) (sk : List Nat) (A : Fr) (st : St) : Option (List Nat × Fr × St) :=
  match o.guard with
  | none => (opD R o.op A st).bind fun r => some (skDrop o.dst sk, fput A o.dst r.1, r.2)
  | some (g, want) =>
    bif sk.contains g then some (o.dst.toList ++ sk, fput A o.dst (.tup []), st)
    else match A g with
      | .bool b => if b = want then (opD R o.op (fput A (some g) (.bool b)) st).bind fun r => some (skDrop o.dst sk, fput (fput A (some g) (.bool b)) o.dst r.1, r.2)
        else some (o.dst.toList ++ sk, fput (fput A (some g) (.bool b)) o.dst (.tup []), st)
      | _ => none

theorem opsK_step {α : Type} (R : Sys) (o : IOp) (os : List IOp) (sk : List Nat) (A : Fr) (st : St) (K : Fr → St → Option α) :
    opsK R (o :: os) sk A st K = (stepO R o sk A st).bind fun p => opsK R os p.1 p.2.1 p.2.2 K := by
  simp only [opsK, stepO]
  cases hg : o.guard with
  | none => simp only [opK_bind R o.op A st, bind_bind, Option.bind_some]
  | some gw =>
    obtain ⟨g, want⟩ := gw
    simp only
    cases hs : sk.contains g with
    | true => simp only [cond_true, Option.bind_some]
    | false =>
      simp only [cond_false]
      cases hA : A g with
      | bool b =>
        cases b <;> cases want <;> simp [cnd, opK_bind R o.op _ st, bind_bind, Option.bind_some]
      | _ => rfl

theorem fput_self (A : Fr) (g : Nat) : fput A (some g) (A g) = A := by
  funext i
  simp only [fput]
  cases e : Nat.beq i g with
  | true => rw [Nat.eq_of_beq_eq_true e]; rfl
  | false => rfl

theorem fput_at (A : Fr) (g : Nat) (v : AV) : fput A (some g) v g = v := by simp [fput]
theorem fput_ne (A : Fr) {g i : Nat} (v : AV) (h : i ≠ g) : fput A (some g) v i = A i := by
  have : Nat.beq i g = false := by
    cases e : Nat.beq i g with
    | false => rfl
    | true => exact absurd (Nat.eq_of_beq_eq_true e) h
  simp [fput, this]

section
variable {P : Program} {c : Cx} {w w' : World} {base : Nat}

def FRel (c : Cx) (w : World) (A : Fr) (a : Act) : Prop := ∀ t, VRel c w (A t) (a.tmps.getD t undef)

theorem FRel_ex {c' : Cx} (X : Ex c w c' w') {A : Fr} {a : Act} (h : FRel c w A a) : FRel c' w' A a := fun t => VRel_ex X (h t)

theorem FRel_put {A : Fr} {a : Act} (h : FRel c w A a) {dst : Option Nat} {v : AV} {x : Value} (hv : VRel c w v x) (hd : ∀ d, dst = some d → d < a.tmps.size) : FRel c w (fput A dst v) (a.put dst x) := by
  intro t
  cases dst with
  | none => exact h t
  | some d =>
    have hlt := hd d rfl
    by_cases e : t = d
    · subst e
      rw [fput_at]
      simpa [Act.put, hlt] using hv
    · rw [fput_ne A v e]
      have := h t
      simpa [Act.put, Array.getElem?_setIfInBounds_ne (fun e' => e e'.symm)] using this

theorem undef_rel : VRel c w (.tup []) undef := by simp only [VRel]; exact ⟨#[], rfl, by simp [VRels]⟩

theorem tup_nil {x : Value} (h : VRel c w (.tup []) x) : x = undef := by
  simp only [VRel, VRels] at h
  obtain ⟨vs, rfl, h⟩ := h
  have : vs = #[] := by apply Array.ext'; simpa using h
  subst this; rfl

theorem bool_val {b : Bool} {x : Value} (h : VRel c w (.bool b) x) : x = .bool b := by simpa only [VRel] using h

/-- functional facts of one operation -/
theorem new_ws {st : St} (s : Nat) (es : List AV) (W : WS st) : WS (st.new s es) ∧ st.n ≤ (st.new s es).n := by
  refine ⟨fun i a h => ?_, Nat.le_succ _⟩
  simp only [St.new] at h ⊢
  cases e : Nat.beq i st.m with
  | true =>
    rw [e] at h; simp at h; subst h
    have := Nat.eq_of_beq_eq_true e
    exact ⟨Nat.lt_succ_self _, by omega⟩
  | false => rw [e] at h; have := W i a h; omega

theorem put_ws {st : St} {j : Nat} {a a' : LArr} (W : WS st) (hj : st.H j = some a) (ht : a'.tag = a.tag) : WS (st.put j a') := by
  intro i b h
  simp only [St.put] at h ⊢
  cases e : Nat.beq i j with
  | true =>
    rw [e] at h; simp at h; subst h
    have := Nat.eq_of_beq_eq_true e
    subst this
    rw [ht]; exact W _ a hj
  | false => rw [e] at h; exact W i b h

def ThW (g : AV → St → Option (AV × St)) : Prop := ∀ v st v' st', g v st = some (v', st') → (∀ t ∈ v.tags, t < st.n) → WS st → WS st' ∧ st'.n = st.n

theorem mapS_ws {g : AV → St → Option (AV × St)} (G : ThW g) : ∀ {vs : List AV} {st : St} {vs' : List AV} {st' : St}, mapS g vs st = some (vs', st') → (∀ t ∈ tagsL vs, t < st.n) → WS st → WS st' ∧ st'.n = st.n
  | [], st, vs', st', h, _, W => by simp [mapS] at h; rw [← h.2]; exact ⟨W, rfl⟩
  | v :: vs, st, vs', st', h, ht, W => by
    simp only [mapS] at h
    obtain ⟨p, h1, hA⟩ := bind_some h
    obtain ⟨q, h2, hB⟩ := bind_some hA
    simp at hB
    simp only [tagsL] at ht
    obtain ⟨W1, n1⟩ := G v st p.1 p.2 h1 (fun t h => ht t (List.mem_append_left _ h)) W
    obtain ⟨W2, n2⟩ := mapS_ws G h2 (fun t h => by rw [n1]; exact ht t (List.mem_append_right _ h)) W1
    rw [← hB.2]; exact ⟨W2, n2.trans n1⟩

theorem thOne_ws {g : AV → St → Option (AV × St)} (G : ThW g) : ThW (thOne g) := by
  intro v st v' st' h ht W
  cases v <;> simp only [thOne] at h
  case sl t off s es =>
    obtain ⟨_, hA⟩ := if_some h
    obtain ⟨p, h1, hB⟩ := bind_some hA
    simp at hB
    simp only [AV.tags] at ht
    obtain ⟨W1, n1⟩ := mapS_ws G (st' := p.2) h1 (fun t h => ht t (List.mem_cons_of_mem _ h)) W
    rw [← hB.2]
    refine ⟨fun i a h => ?_, n1⟩
    simp only at h ⊢
    cases e : Nat.beq i p.2.m with
    | true =>
      rw [e] at h; simp at h; subst h
      have := Nat.eq_of_beq_eq_true e
      have := ht t (by simp)
      exact ⟨by show t < _; omega, by omega⟩
    | false => rw [e] at h; have := W1 i a h; omega
  all_goals
    first
    | (simp at h; done)
    | (simp at h; rw [← h.2]; exact ⟨W, rfl⟩)

theorem thD_ws : ∀ d : Nat, ThW (thD d)
  | 0 => by
    intro v st v' st' h _ W
    simp only [thD] at h
    split at h
    · simp at h; rw [← h.2]; exact ⟨W, rfl⟩
    · simp at h
  | d + 1 => by
    intro v st v' st' h ht W
    simp only [thD] at h
    cases v
    case agg cs =>
      simp only [thVal] at h
      obtain ⟨p, h1, hB⟩ := bind_some h
      simp at hB
      rw [← hB.2]; exact mapS_ws (thOne_ws (thD_ws d)) (st' := p.2) h1 (by simpa only [AV.tags] using ht) W
    all_goals exact thOne_ws (thD_ws d) _ _ _ _ (by simpa only [thVal] using h) ht W

theorem thTup_ws (d : Nat) : ThW (thTup d) := by
  intro v st v' st' h ht W
  cases v
  case tup cs =>
    simp only [thTup] at h
    obtain ⟨p, h1, hB⟩ := bind_some h
    simp at hB
    rw [← hB.2]; exact mapS_ws (thD_ws d) (st' := p.2) h1 (by simpa only [AV.tags] using ht) W
  all_goals exact thD_ws d _ _ _ _ (by simpa only [thTup] using h) ht W

theorem clV_ws {R : Sys} (CM : CallMono R.call) {f d : Nat} {args : List AV} {st st' : St} {v : AV} (h : clV R f d args st = some (v, st')) (W : WS st) : WS st' ∧ st.n ≤ st'.n := by
  unfold clV at h
  obtain ⟨as, h1, hA⟩ := bind_some h
  obtain ⟨⟨r, n'⟩, h2, hB⟩ := bind_some hA
  clear h hA
  have hmono := CM _ _ _ _ _ h2
  have WSn : WS { st with n := n' } := fun i a h => ⟨Nat.lt_of_lt_of_le (W i a h).1 hmono, (W i a h).2⟩
  cases d with
  | zero =>
    simp only at hB
    obtain ⟨v', h3, hB⟩ := bind_some hB
    simp at hB
    rw [← hB.2]; exact ⟨WSn, hmono⟩
  | succ d =>
    simp only [thaw] at hB
    obtain ⟨⟨hn, hall⟩, hB⟩ := if_some hB
    obtain ⟨a, b⟩ := thTup_ws (d + 1) _ _ _ _ hB (fun t ht => by
      have := List.all_eq_true.1 hall t ht
      simp only [Bool.and_eq_true] at this
      exact Nat.le_of_ble_eq_true this.2) WSn
    exact ⟨a, by rw [b]; exact hmono⟩

theorem app_ws {s : Nat} {x y : AV} {st : St} {r : AV × St} (h : aApp s x y st = some r) (W : WS st) : WS r.2 ∧ st.n ≤ r.2.n := by
  unfold aApp at h
  obtain ⟨ys, h1, hA⟩ := bind_some h
  clear h
  obtain ⟨h2, h⟩ := if_some hA
  clear hA
  cases x with
  | nils =>
    simp at h
    obtain ⟨h3, rfl⟩ := h; exact new_ws _ _ W
  | lsl j tg s off len =>
    simp at h
    obtain ⟨h3, h⟩ := h
    obtain ⟨a, g, h⟩ := bind_some h
    obtain ⟨h4, h⟩ := if_some h
    simp at h
    rw [← h]
    refine ⟨fun i b hb => ?_, Nat.le_succ _⟩
    simp only [St.put] at hb ⊢
    cases e : Nat.beq i j with
    | true =>
      rw [e] at hb; simp at hb; subst hb
      have := Nat.eq_of_beq_eq_true e
      subst this
      exact ⟨Nat.lt_succ_self _, (W _ a (get_some g).1).2⟩
    | false => rw [e] at hb; have := W i b hb; omega
  | _ => simp at h

theorem opD_ws {R : Sys} (CM : CallMono R.call) (IW : InlWS R.inl) {io : AOp} {A : Fr} {st st' : St} {v : AV} (h : opD R io A st = some (v, st')) (W : WS st) : WS st' ∧ st.n ≤ st'.n := by
  have same : ∀ {x : Option AV}, (x.bind fun v => some (v, st)) = some (v, st') → WS st' ∧ st.n ≤ st'.n := fun h => by
    rw [(valD h).2]; exact ⟨W, Nat.le_refl _⟩
  cases io <;> simp only [opD, opK] at h
  case bad => simp at h
  case mv => simp at h; rw [← h.2]; exact ⟨W, Nat.le_refl _⟩
  case alloc => obtain ⟨_, h⟩ := if_some h; simp at h; rw [← h.2]; exact new_ws _ _ W
  case box => obtain ⟨_, h⟩ := if_some h; simp at h; rw [← h.2]; exact new_ws _ _ W
  case build => obtain ⟨cs, _, h⟩ := bind_some h; simp at h; rw [← h.2]; exact ⟨W, Nat.le_refl _⟩
  case bslice =>
    obtain ⟨_, h⟩ := if_some h
    obtain ⟨cs, _, h⟩ := bind_some h
    simp at h; rw [← h.2]; exact new_ws _ _ W
  case store s x y =>
    obtain ⟨st2, h1, h⟩ := bind_some h
    simp at h; rw [← h.2]
    unfold aStore at h1
    split at h1
    · obtain ⟨_, h1⟩ := if_some h1
      obtain ⟨a, g, h1⟩ := bind_some h1
      obtain ⟨e, _, h1⟩ := bind_some h1
      obtain ⟨e', _, h1⟩ := bind_some h1
      simp at h1; subst h1
      exact ⟨put_ws W (get_some g).1 rfl, Nat.le_refl _⟩
    · simp at h1
  case mkslice =>
    split at h
    · obtain ⟨_, h⟩ := if_some h; simp at h; rw [← h.2]; exact new_ws _ _ W
    · simp at h
  case call f as inl d =>
    cases inl with
    | true =>
      simp only [cond_true] at h
      obtain ⟨r, h1, h⟩ := bind_some h
      simp at h; obtain ⟨rfl, rfl⟩ := h
      exact IW _ _ _ _ _ h1 W
    | false =>
      simp only [cond_false] at h
      obtain ⟨r, h1, h⟩ := bind_some h
      simp at h; obtain ⟨rfl, rfl⟩ := h
      exact clV_ws CM h1 W
  case app s x y =>
    obtain ⟨r, h1, h⟩ := bind_some h
    simp at h; obtain ⟨rfl, rfl⟩ := h
    exact app_ws h1 W
  case appn s x y =>
    split at h
    · obtain ⟨r, h1, h⟩ := bind_some h
      simp at h; obtain ⟨rfl, rfl⟩ := h
      exact app_ws h1 W
    · simp at h
  all_goals exact same h


/-! ### one operation carried out, or passed over -/

def wants (io : IOp) (A : Fr) : Prop := match io.guard with | none => True | some (g, want) => A g = .bool want
def unwants (io : IOp) (A : Fr) : Prop := match io.guard with | none => False | some (g, want) => A g = .tup [] ∨ A g = .bool (!want)

def Took (R : Sys) (io : IOp) (A : Fr) (v : AV) (st st' : St) : Prop :=
  (wants io A ∧ opD R io.op A st = some (v, st')) ∨ (unwants io A ∧ v = .tup [] ∧ st' = st)

theorem stepO_took {R : Sys} {o : IOp} {sk sk' : List Nat} {A A' : Fr} {st st' : St} (h : stepO R o sk A st = some (sk', A', st')) (hs : ∀ t ∈ sk, A t = .tup []) :
    ∃ v, A' = fput A o.dst v ∧ Took R o A v st st' ∧ ∀ t ∈ sk', A' t = .tup [] := by
  have drop : ∀ v t, t ∈ skDrop o.dst sk → fput A o.dst v t = .tup [] := by
    intro v t ht
    cases hd : o.dst with
    | none => rw [hd] at ht; exact hs t ht
    | some d =>
      rw [hd] at ht
      simp only [skDrop, List.mem_filter, Bool.not_eq_true'] at ht
      have : t ≠ d := fun e => by subst e; simp at ht
      rw [fput_ne A v this]; exact hs t ht.1
  have add : ∀ t, t ∈ o.dst.toList ++ sk → fput A o.dst (.tup []) t = .tup [] := by
    intro t ht
    cases hd : o.dst with
    | none => rw [hd] at ht; exact hs t (by simpa using ht)
    | some d =>
      rw [hd] at ht
      by_cases e : t = d
      · subst e; rw [fput_at]
      · rw [fput_ne A _ e]; exact hs t (by simpa [e] using ht)
  unfold stepO at h
  cases hg : o.guard with
  | none =>
    simp only [hg] at h
    obtain ⟨r, h1, h2⟩ := bind_some h
    simp at h2; obtain ⟨rfl, rfl, rfl⟩ := h2
    exact ⟨r.1, rfl, .inl ⟨by simp [wants, hg], h1⟩, drop r.1⟩
  | some gw =>
    obtain ⟨g, want⟩ := gw
    simp only [hg] at h
    cases hc : sk.contains g with
    | true =>
      rw [hc] at h; simp at h; obtain ⟨rfl, rfl, rfl⟩ := h
      exact ⟨_, rfl, .inr ⟨by simp only [unwants, hg]; exact .inl (hs g (by simpa using hc)), rfl, rfl⟩, add⟩
    | false =>
      rw [hc] at h; simp only [cond_false] at h
      split at h
      · rename_i b hb
        have e1 : fput A (some g) (.bool b) = A := by rw [← hb]; exact fput_self A g
        rw [e1] at h
        by_cases hbw : b = want
        · rw [if_pos hbw] at h
          obtain ⟨r, h1, h2⟩ := bind_some h
          simp at h2; obtain ⟨rfl, rfl, rfl⟩ := h2
          exact ⟨r.1, rfl, .inl ⟨by simp only [wants, hg]; rw [hb, hbw], h1⟩, drop r.1⟩
        · rw [if_neg hbw] at h
          simp at h; obtain ⟨rfl, rfl, rfl⟩ := h
          refine ⟨_, rfl, .inr ⟨?_, rfl, rfl⟩, add⟩
          simp only [unwants, hg]
          right; rw [hb]; cases b <;> cases want <;> simp_all
      · simp at h

/-- the run of a list: the frames and states on its way -/
def opsR (R : Sys) : List IOp → List Nat → Fr → St → Option (Fr × St)
  | [], _, A, st => some (A, st)
  | o :: os, sk, A, st => (stepO R o sk A st).bind fun p => opsR R os p.1 p.2.1 p.2.2

theorem opsK_R {α : Type} (R : Sys) (K : Fr → St → Option α) : ∀ (os : List IOp) (sk : List Nat) (A : Fr) (st : St), opsK R os sk A st K = (opsR R os sk A st).bind fun p => K p.1 p.2
  | [], sk, A, st => rfl
  | o :: os, sk, A, st => by
    rw [opsK_step, opsR, bind_bind]
    congr 1; funext p; exact opsK_R R K os _ _ _

structure Way (R : Sys) (l : List IOp) (As : Nat → Fr) (ss : Nat → St) (vs : Nat → AV) : Prop where
  step : ∀ k io, l[k]? = some io → As (k + 1) = fput (As k) io.dst (vs k) ∧ Took R io (As k) (vs k) (ss k) (ss (k + 1))

theorem opsR_way {R : Sys} : ∀ {l : List IOp} {sk : List Nat} {A A' : Fr} {st st' : St}, opsR R l sk A st = some (A', st') → (∀ t ∈ sk, A t = .tup []) →
    ∃ As ss vs, Way R l As ss vs ∧ As 0 = A ∧ ss 0 = st ∧ As l.length = A' ∧ ss l.length = st'
  | [], sk, A, A', st, st', h, hs => by
    simp [opsR] at h
    exact ⟨fun _ => A, fun _ => st, fun _ => .undef, ⟨by simp⟩, rfl, rfl, h.1, h.2⟩
  | o :: os, sk, A, A', st, st', h, hs => by
    simp only [opsR] at h
    obtain ⟨⟨sk1, A1, st1⟩, h1, h2⟩ := bind_some h
    obtain ⟨v, e1, t1, s1⟩ := stepO_took h1 hs
    obtain ⟨As, ss, vs, W, a0, b0, an, bn⟩ := opsR_way h2 s1
    simp only at a0 b0
    refine ⟨fun k => k.casesOn A As, fun k => k.casesOn st ss, fun k => k.casesOn v vs, ⟨fun k io hk => ?_⟩, rfl, rfl, an, bn⟩
    cases k with
    | zero => simp at hk; subst hk; exact ⟨by show As 0 = _; rw [a0]; exact e1, by show Took R o A v st (ss 0); rw [b0]; exact t1⟩
    | succ k => exact W.step k io (by simpa using hk)

theorem Post.trans {c0 c1 c2 : Cx} {w0 w1 w2 : World} {n0 n1 m0 m1 a b : Nat} (h : Post c0 w0 base n0 n1 c1 w1) (k : Post c1 w1 base m0 m1 c2 w2)
    (h1 : a ≤ n0) (h2 : n1 ≤ b) (h3 : a ≤ m0) (h4 : m1 ≤ b) : Post c0 w0 base a b c2 w2 := by
  refine ⟨h.ex.trans k.ex, h.below.trans k.below, fun t ht => ?_, fun t ht hc => ?_⟩
  case refine_2 =>
    rcases k.vnew t ht hc with h1 | h1
    · have e := (k.ex.vd t h1).2
      rw [e] at hc ⊢
      exact h.vnew t h1 hc
    · exact .inr h1
  obtain ⟨p1, p2, p3⟩ := h.off t (fun q => ht ⟨by omega, by omega⟩)
  obtain ⟨q1, q2, q3⟩ := k.off t (fun q => ht ⟨by omega, by omega⟩)
  exact ⟨q1.trans p1, q2.trans p2, q3.trans p3⟩

theorem Post.free {c0 c1 : Cx} {w0 w1 : World} {n0 n1 t : Nat} (h : Post c0 w0 base n0 n1 c1 w1) (ht : ¬ (n0 ≤ t ∧ t < n1)) (F : Free c0 t) : Free c1 t := by
  obtain ⟨_, p2, p3⟩ := h.off t ht
  exact ⟨F.1, fun q => F.2.1 (p2.1 q), fun q => F.2.2 (p3.1 q)⟩

/-- one operation of a region -/
theorem opAt {R : Sys} {h : Hint} {cur nt : Nat} {ops : Array Oper} {Q : Exit → Act → World → Prop} {j : Nat} {o : Oper} {A : Fr} {a : Act} {st st' : St} {v : AV} (SO : SysOk P R)
    (hj : ops[j]? = some o) (hA : FRel c w A a) (hsz : a.tmps.size = nt) (S : Sim c w st.H base) (T : Took R (compOper P h cur nt ops o) A v st st')
    (F : ∀ t, st.n ≤ t → t < st'.n → Free c t) (hNo : ∀ i a, i ≠ st.m → st.H i = some a → a.tag ≠ st.n) (hW : cls (compOper P h cur nt ops o).op = 2 → WS st)
    {K : Act → World → Prop} (hK : ∀ c' w' x, (compOper P h cur nt ops o).dst = o.dst → (∀ d, o.dst = some d → d < nt) → Post c w base st.n st'.n c' w' → Sim c' w' st'.H base → VRel c' w' v x → K (a.put o.dst x) w') : wpOp P ops Q j K a w := by
  unfold wpOp
  simp only [hj]
  have bad : ∀ {io : IOp}, io = { dst := none, guard := none, op := .bad } → ¬ Took R io A v st st' := by
    rintro io rfl (⟨_, h⟩ | ⟨h, _⟩)
    · simp [opD, opK] at h
    · exact h
  have dok : ∀ {d : Option Nat}, (match d with | none => true | some d => Nat.blt d nt) = true → ∀ e, d = some e → e < nt := by
    intro d hd e he; subst he; exact Nat.le_of_ble_eq_true hd
  have core : ∀ {g}, compOper P h cur nt ops o = { dst := o.dst, guard := g, op := compOp' P h cur ops o } → (∀ e, o.dst = some e → e < nt) → opD R (compOp' P h cur ops o) A st = some (v, st') →
      o.wp P a w K Q := by
    intro g hg hd hD
    rw [hg] at hW hK
    exact op_ok' SO ops o hA S v st' hD F hNo hW K Q fun c' w' x p1 p2 p3 => hK c' w' x rfl hd p1 p2 p3
  cases hg : o.guard with
  | none =>
    have hw : Region.wanted o (yielded ops a.tmps) = true := by simp [Region.wanted, hg]
    rw [if_pos hw]
    have hc : compOper P h cur nt ops o = bif (match o.dst with | none => true | some d => Nat.blt d nt) then { dst := o.dst, guard := none, op := compOp' P h cur ops o } else { dst := none, guard := none, op := .bad } := by
      simp only [compOper, hg]; rfl
    cases hd : (match o.dst with | none => true | some d => Nat.blt d nt : Bool) with
    | false => rw [hd] at hc; exact absurd T (bad hc)
    | true =>
      rw [hd] at hc
      simp only [cond_true] at hc
      rcases T with ⟨_, hD⟩ | ⟨hu, _⟩
      · rw [hc] at hD; exact .inl (core hc (dok hd) hD)
      · rw [hc] at hu; exact hu.elim
  | some gw =>
    obtain ⟨g, want⟩ := gw
    cases hgd : (ops[g]?).bind (·.dst) with
    | none => exact absurd T (bad (by simp only [compOper, hg, hgd]))
    | some gd =>
      have hc : compOper P h cur nt ops o = bif (match o.dst with | none => true | some d => Nat.blt d nt) && Nat.blt gd nt then { dst := o.dst, guard := some (gd, want), op := compOp' P h cur ops o } else { dst := none, guard := none, op := .bad } := by
        simp only [compOper, hg, hgd]; rfl
      cases hd : ((match o.dst with | none => true | some d => Nat.blt d nt) && Nat.blt gd nt : Bool) with
      | false => rw [hd] at hc; exact absurd T (bad hc)
      | true =>
        rw [hd] at hc
        simp only [cond_true] at hc
        simp only [Bool.and_eq_true] at hd
        have hlt : gd < a.tmps.size := by rw [hsz]; exact Nat.le_of_ble_eq_true hd.2
        have hy : ∀ x, VRel c w (A gd) x → True := fun _ _ => trivial
        have hv := hA gd
        have hget : a.tmps[gd]? = some (a.tmps.getD gd undef) := by simp [hlt]
        have hyl : yielded ops a.tmps g = match a.tmps.getD gd undef with | .bool b => some b | _ => none := by
          unfold yielded
          rw [hgd, Option.bind_some, hget]
          cases a.tmps.getD gd undef <;> rfl
        rcases T with ⟨hw, hD⟩ | ⟨hu, rfl, rfl⟩
        · rw [hc] at hw hD
          have hw : A gd = .bool want := hw
          rw [hw] at hv
          have : Region.wanted o (yielded ops a.tmps) = true := by
            rw [bool_val hv] at hyl; simp [Region.wanted, hg, hyl]
          rw [if_pos this]
          exact .inl (core hc (dok hd.1) hD)
        · rw [hc] at hu
          have hu : A gd = .tup [] ∨ A gd = .bool (!want) := hu
          have : Region.wanted o (yielded ops a.tmps) = false := by
            rcases hu with hu | hu <;> rw [hu] at hv
            · rw [tup_nil hv] at hyl; simp [Region.wanted, hg, hyl, undef]
            · rw [bool_val hv] at hyl; simp [Region.wanted, hg, hyl]
          rw [this]
          simp only [Bool.false_eq_true, if_false]
          exact hK c w undef (by rw [hc]) (dok hd.1) (Post.same _ _ _ _ _) S undef_rel

end
end Go.Proofs.YtilbmpdeginabaaFw
