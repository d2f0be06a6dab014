/- The system without a bound on its rounds. Conditions: none beside each theorem's own. -/
import Derived.Test.YtilbmpdeginabaaFw17
namespace Go.Proofs.YtilbmpdeginabaaFw
open Go Go.RowKit
set_option linter.unusedSimpArgs false
set_option linter.unusedVariables false

structure SLe (R R' : Sys) : Prop where
  call : ∀ f as n r, R.call f as n = some r → R'.call f as n = some r
  inl : ∀ f as st r, R.inl f as st = some r → R'.inl f as st = some r
  loop : ∀ k o c vs st r, R.loop k o c vs st = some r → R'.loop k o c vs st = some r

theorem SLe.refl (R : Sys) : SLe R R := ⟨fun _ _ _ _ h => h, fun _ _ _ _ h => h, fun _ _ _ _ _ _ h => h⟩
theorem SLe.trans {R S T : Sys} (h : SLe R S) (k : SLe S T) : SLe R T :=
  ⟨fun _ _ _ _ e => k.call _ _ _ _ (h.call _ _ _ _ e), fun _ _ _ _ e => k.inl _ _ _ _ (h.inl _ _ _ _ e), fun _ _ _ _ _ _ e => k.loop _ _ _ _ _ _ (h.loop _ _ _ _ _ _ e)⟩

theorem bind_mk {α β : Type} {x : Option α} {f : α → Option β} {a : α} {b : β} (h : x = some a) (k : f a = some b) : x.bind f = some b := by rw [h]; exact k

/-- 'all that a run asks of R is answered alike': a run under R, seen through a property of systems that is kept under growth -/
structure Grows (R : Sys) (G : Sys → Prop) : Prop where
  call : ∀ f as n r, R.call f as n = some r → ∃ S, G S ∧ S.call f as n = some r
  inl : ∀ f as st r, R.inl f as st = some r → ∃ S, G S ∧ S.inl f as st = some r
  loop : ∀ k o c vs st r, R.loop k o c vs st = some r → ∃ S, G S ∧ S.loop k o c vs st = some r
  dir : ∀ S T, G S → G T → ∃ U, G U ∧ SLe S U ∧ SLe T U
  one : ∃ S, G S

theorem clV_sys {R S : Sys} {f d : Nat} {args : List AV} {st : St} {r : AV × St} (h : clV R f d args st = some r) (hc : ∀ as q, R.call f as st.n = some q → S.call f as st.n = some q) : clV S f d args st = some r := by
  unfold clV at h ⊢
  obtain ⟨as, h1, h⟩ := bind_some h
  obtain ⟨q, h2, h⟩ := bind_some h
  exact bind_mk h1 (bind_mk (hc _ _ h2) h)

theorem opD_cont {R : Sys} {G : Sys → Prop} (g : Grows R G) {io : AOp} {A : Fr} {st : St} {r : AV × St} (h : opD R io A st = some r) : ∃ S, G S ∧ opD S io A st = some r := by
  have triv : (∀ S, opD S io A st = opD R io A st) → ∃ S, G S ∧ opD S io A st = some r := fun e => by
    obtain ⟨S, hS⟩ := g.one
    exact ⟨S, hS, by rw [e]; exact h⟩
  cases io
  case call f as inl d =>
    simp only [opD, opK] at h ⊢
    cases inl with
    | true =>
      simp only [cond_true] at h ⊢
      obtain ⟨q, h1, h⟩ := bind_some h
      obtain ⟨S, hS, h2⟩ := g.inl _ _ _ _ h1
      exact ⟨S, hS, bind_mk h2 h⟩
    | false =>
      simp only [cond_false] at h ⊢
      obtain ⟨q, h1, h⟩ := bind_some h
      have h1' := h1
      unfold clV at h1
      obtain ⟨bs, e1, h1⟩ := bind_some h1
      obtain ⟨p, e2, h1⟩ := bind_some h1
      obtain ⟨S, hS, e3⟩ := g.call _ _ _ _ e2
      refine ⟨S, hS, bind_mk ?_ h⟩
      unfold clV
      exact bind_mk e1 (bind_mk e3 h1)
  all_goals exact triv fun _ => rfl

theorem opD_le {R S : Sys} (L : SLe R S) {io : AOp} {A : Fr} {st : St} {r : AV × St} (h : opD R io A st = some r) : opD S io A st = some r := by
  have g : Grows R (fun T => T = S) := ⟨fun _ _ _ _ e => ⟨S, rfl, L.call _ _ _ _ e⟩, fun _ _ _ _ e => ⟨S, rfl, L.inl _ _ _ _ e⟩, fun _ _ _ _ _ _ e => ⟨S, rfl, L.loop _ _ _ _ _ _ e⟩,
    fun A B a b => ⟨S, rfl, by rw [a]; exact SLe.refl S, by rw [b]; exact SLe.refl S⟩, ⟨S, rfl⟩⟩
  obtain ⟨T, rfl, h⟩ := opD_cont g h
  exact h

theorem stepO_le {R S : Sys} (L : SLe R S) {o : IOp} {sk : List Nat} {A : Fr} {st : St} {r : List Nat × Fr × St} (h : stepO R o sk A st = some r) : stepO S o sk A st = some r := by
  unfold stepO at h ⊢
  split at h
  · obtain ⟨q, h1, h⟩ := bind_some h
    exact bind_mk (opD_le L h1) h
  · rename_i g _ _
    cases hs : sk.contains g with
    | true => rw [hs] at h; exact h
    | false =>
      rw [hs] at h
      simp only [cond_false] at h ⊢
      split at h
      · split at h
        · rename_i hb
          rw [if_pos hb]
          obtain ⟨q, h1, h⟩ := bind_some h
          exact bind_mk (opD_le L h1) h
        · rename_i hb; rw [if_neg hb]; exact h
      · exact h

theorem stepO_cont {R : Sys} {G : Sys → Prop} (g : Grows R G) {o : IOp} {sk : List Nat} {A : Fr} {st : St} {r : List Nat × Fr × St} (h : stepO R o sk A st = some r) : ∃ S, G S ∧ stepO S o sk A st = some r := by
  unfold stepO at h ⊢
  split at h
  · obtain ⟨q, h1, h⟩ := bind_some h
    obtain ⟨S, hS, h2⟩ := opD_cont g h1
    exact ⟨S, hS, bind_mk h2 h⟩
  · rename_i gd _ _
    cases hs : sk.contains gd with
    | true => rw [hs] at h; obtain ⟨S, hS⟩ := g.one; exact ⟨S, hS, h⟩
    | false =>
      rw [hs] at h
      simp only [cond_false] at h ⊢
      split at h
      · split at h
        · rename_i hb
          obtain ⟨q, h1, h⟩ := bind_some h
          obtain ⟨S, hS, h2⟩ := opD_cont g h1
          exact ⟨S, hS, by rw [if_pos hb]; exact bind_mk h2 h⟩
        · rename_i hb; obtain ⟨S, hS⟩ := g.one; exact ⟨S, hS, by rw [if_neg hb]; exact h⟩
      · simp at h

theorem opsR_le {R S : Sys} (L : SLe R S) : ∀ {l : List IOp} {sk : List Nat} {A : Fr} {st : St} {r : Fr × St}, opsR R l sk A st = some r → opsR S l sk A st = some r
  | [], _, _, _, _, h => h
  | o :: os, sk, A, st, r, h => by
    simp only [opsR] at h ⊢
    obtain ⟨q, h1, h⟩ := bind_some h
    exact bind_mk (stepO_le L h1) (opsR_le L h)

theorem opsR_cont {R : Sys} {G : Sys → Prop} (g : Grows R G) : ∀ {l : List IOp} {sk : List Nat} {A : Fr} {st : St} {r : Fr × St}, opsR R l sk A st = some r → ∃ S, G S ∧ opsR S l sk A st = some r
  | [], _, _, _, _, h => by obtain ⟨S, hS⟩ := g.one; exact ⟨S, hS, h⟩
  | o :: os, sk, A, st, r, h => by
    simp only [opsR] at h ⊢
    obtain ⟨q, h1, h⟩ := bind_some h
    obtain ⟨S, hS, h1⟩ := stepO_cont g h1
    obtain ⟨T, hT, h2⟩ := opsR_cont g h
    obtain ⟨U, hU, a, b⟩ := g.dir S T hS hT
    exact ⟨U, hU, bind_mk (stepO_le a h1) (opsR_le b h2)⟩

theorem seq_mk {R : Sys} {x y : ICode} {A A1 : Fr} {st s1 : St} {e : XT} {r : XT × Fr × St} (h1 : runD R x A st = some (e, A1, s1))
    (h2 : (e = .normal ∧ runD R y A1 s1 = some r) ∨ (e ≠ .normal ∧ r = (e, A1, s1))) : runD R (.seq x y) A st = some r := by
  simp only [runD, runK]
  rw [runK_bind, h1, Option.bind_some]
  rcases h2 with ⟨rfl, h2⟩ | ⟨h, rfl⟩
  · exact h2
  · cases e with
    | normal => exact absurd rfl h
    | exit id => rfl
    | ret => rfl

theorem cond_mk {R : Sys} {o : Opd} {x y : ICode} {A : Fr} {st : St} {r : XT × Fr × St} {b : Bool} (hb : ev A o = .bool b) (h : runD R (if b then x else y) A st = some r) : runD R (.cond o x y) A st = some r := by
  cases o with
  | t i =>
    simp only [ev] at hb
    simp only [runD, runK]
    rw [hb]
    cases b
    · simp only [cnd]; rw [fput_bool hb]; exact h
    · simp only [cnd]; rw [fput_bool hb]; exact h
  | c v =>
    simp only [ev] at hb
    subst hb
    cases b <;> exact h

theorem block_mk {R : Sys} {id : Nat} {x : ICode} {A A1 : Fr} {st s1 : St} {e : XT} : runD R x A st = some (e, A1, s1) →
    runD R (.block id x) A st = some ((match e with | .exit i => bif Nat.beq i id then .normal else .exit i | e => e), A1, s1) := by
  intro h
  simp only [runD, runK]
  rw [runK_bind, h, Option.bind_some]
  cases e with
  | exit i => simp only [blkX]; cases Nat.beq i id <;> rfl
  | normal => rfl
  | ret => rfl

theorem runD_le {R S : Sys} (L : SLe R S) : ∀ {ic : ICode} {A : Fr} {st : St} {r : XT × Fr × St}, runD R ic A st = some r → runD S ic A st = some r
  | .bad, _, _, _, h => h
  | .skip, _, _, _, h => h
  | .ops l, A, st, r, h => by
    simp only [runD, runK] at h ⊢
    rw [opsK_R] at h ⊢
    obtain ⟨q, h1, h⟩ := bind_some h
    exact bind_mk (opsR_le L h1) h
  | .seq a b, A, st, r, h => by
    obtain ⟨e, A1, s1, h1, h2⟩ := seq_run h
    exact seq_mk (runD_le L h1) (h2.imp (fun h => ⟨h.1, runD_le L h.2⟩) id)
  | .cond o x y, A, st, r, h => by
    obtain ⟨b, hb, h1⟩ := cond_run h
    refine cond_mk hb ?_
    cases b
    · exact runD_le (ic := y) L h1
    · exact runD_le (ic := x) L h1
  | .block id x, A, st, r, h => by
    obtain ⟨e, A1, s1, h1, rfl⟩ := block_run h
    exact block_mk (runD_le L h1)
  | .loop k o c, A, st, r, h => by
    simp only [runD, runK] at h ⊢
    obtain ⟨q, h1, h⟩ := bind_some h
    exact bind_mk (L.loop _ _ _ _ _ _ h1) h
  | .exit id, _, _, _, h => h
  | .ret, _, _, _, h => h

theorem runD_cont {R : Sys} {G : Sys → Prop} (g : Grows R G) : ∀ {ic : ICode} {A : Fr} {st : St} {r : XT × Fr × St}, runD R ic A st = some r → ∃ S, G S ∧ runD S ic A st = some r
  | .bad, _, _, _, h => by simp [runD, runK] at h
  | .skip, _, _, _, h => by obtain ⟨S, hS⟩ := g.one; exact ⟨S, hS, h⟩
  | .ops l, A, st, r, h => by
    simp only [runD, runK] at h ⊢
    rw [opsK_R] at h
    obtain ⟨q, h1, h⟩ := bind_some h
    obtain ⟨S, hS, h1⟩ := opsR_cont g h1
    exact ⟨S, hS, by rw [opsK_R]; exact bind_mk h1 h⟩
  | .seq a b, A, st, r, h => by
    obtain ⟨e, A1, s1, h1, h2⟩ := seq_run h
    obtain ⟨S, hS, h1⟩ := runD_cont g h1
    rcases h2 with ⟨rfl, h2⟩ | ⟨he, h2⟩
    · obtain ⟨T, hT, h2⟩ := runD_cont g h2
      obtain ⟨U, hU, p, q⟩ := g.dir S T hS hT
      exact ⟨U, hU, seq_mk (runD_le p h1) (.inl ⟨rfl, runD_le q h2⟩)⟩
    · exact ⟨S, hS, seq_mk h1 (.inr ⟨he, h2⟩)⟩
  | .cond o x y, A, st, r, h => by
    obtain ⟨b, hb, h1⟩ := cond_run h
    cases b
    · obtain ⟨S, hS, h1⟩ := runD_cont (ic := y) g h1
      exact ⟨S, hS, cond_mk hb h1⟩
    · obtain ⟨S, hS, h1⟩ := runD_cont (ic := x) g h1
      exact ⟨S, hS, cond_mk hb h1⟩
  | .block id x, A, st, r, h => by
    obtain ⟨e, A1, s1, h1, rfl⟩ := block_run h
    obtain ⟨S, hS, h1⟩ := runD_cont g h1
    exact ⟨S, hS, block_mk h1⟩
  | .loop k o c, A, st, r, h => by
    simp only [runD, runK] at h ⊢
    obtain ⟨q, h1, h⟩ := bind_some h
    obtain ⟨S, hS, h1⟩ := g.loop _ _ _ _ _ _ h1
    exact ⟨S, hS, bind_mk h1 h⟩
  | .exit id, _, _, _, h => by obtain ⟨S, hS⟩ := g.one; exact ⟨S, hS, h⟩
  | .ret, _, _, _, h => by obtain ⟨S, hS⟩ := g.one; exact ⟨S, hS, h⟩

theorem runK_cont {α : Type} {R : Sys} {G : Sys → Prop} (g : Grows R G) {ic : ICode} {A : Fr} {st : St} {K : XT → Fr → St → Option α} {r : α} (h : runK R ic A st K = some r) : ∃ S, G S ∧ runK S ic A st K = some r := by
  rw [runK_bind] at h
  obtain ⟨q, h1, h⟩ := bind_some h
  obtain ⟨S, hS, h1⟩ := runD_cont g h1
  exact ⟨S, hS, by rw [runK_bind]; exact bind_mk h1 h⟩

section
variable (F : Nat → Option IFn)

theorem stepCall_cont {R : Sys} {G : Sys → Prop} (g : Grows R G) {f as n r} (h : (stepR F R).call f as n = some r) : ∃ S, G S ∧ (stepR F S).call f as n = some r := by
  simp only [stepR] at h ⊢
  obtain ⟨fn, h1, h⟩ := bind_some h
  obtain ⟨h2, h⟩ := if_some h
  obtain ⟨S, hS, h⟩ := runK_cont g h
  exact ⟨S, hS, bind_mk h1 (by rw [if_pos h2]; exact h)⟩

theorem stepInl_cont {R : Sys} {G : Sys → Prop} (g : Grows R G) {f as st r} (h : (stepR F R).inl f as st = some r) : ∃ S, G S ∧ (stepR F S).inl f as st = some r := by
  simp only [stepR] at h ⊢
  obtain ⟨fn, h1, h⟩ := bind_some h
  obtain ⟨h2, h⟩ := if_some h
  obtain ⟨S, hS, h⟩ := runK_cont g h
  exact ⟨S, hS, bind_mk h1 (by rw [if_pos h2]; exact h)⟩

theorem stepLoop_cont {R : Sys} {G : Sys → Prop} (g : Grows R G) {k o c vs st r} (h : (stepR F R).loop k o c vs st = some r) : ∃ S, G S ∧ (stepR F S).loop k o c vs st = some r := by
  obtain ⟨x, A', s1, h1, h2⟩ := loop_run h
  obtain ⟨S, hS, h1⟩ := runD_cont g h1
  have mk : ∀ U, SLe S U → (x = .normal → U.loop k o c (k.map A') s1 = some r) → (stepR F U).loop k o c vs st = some r := by
    intro U L hl
    simp only [stepR]
    rw [runK_bind]
    refine bind_mk (runD_le L h1) ?_
    rcases h2 with ⟨rfl, _⟩ | ⟨hx, rfl⟩
    · exact hl rfl
    · cases x with
      | normal => exact absurd rfl hx
      | exit id => rfl
      | ret => rfl
  rcases h2 with ⟨rfl, h2⟩ | ⟨hx, _⟩
  · obtain ⟨T, hT, h2⟩ := g.loop _ _ _ _ _ _ h2
    obtain ⟨U, hU, p, q⟩ := g.dir S T hS hT
    exact ⟨U, hU, mk U p fun _ => q.loop _ _ _ _ _ _ h2⟩
  · exact ⟨S, hS, mk S (SLe.refl S) fun e => absurd e hx⟩

theorem grows_le {R S : Sys} (L : SLe R S) : Grows R (fun T => T = S) :=
  ⟨fun _ _ _ _ e => ⟨S, rfl, L.call _ _ _ _ e⟩, fun _ _ _ _ e => ⟨S, rfl, L.inl _ _ _ _ e⟩, fun _ _ _ _ _ _ e => ⟨S, rfl, L.loop _ _ _ _ _ _ e⟩,
    fun A B a b => ⟨S, rfl, by rw [a]; exact SLe.refl S, by rw [b]; exact SLe.refl S⟩, ⟨S, rfl⟩⟩

theorem step_le {R S : Sys} (L : SLe R S) : SLe (stepR F R) (stepR F S) :=
  ⟨fun f as n r h => by obtain ⟨T, rfl, h⟩ := stepCall_cont F (grows_le L) h; exact h,
   fun f as st r h => by obtain ⟨T, rfl, h⟩ := stepInl_cont F (grows_le L) h; exact h,
   fun k o c vs st r h => by obtain ⟨T, rfl, h⟩ := stepLoop_cont F (grows_le L) h; exact h⟩

theorem sys_up : ∀ k, SLe (sys F k) (sys F (k + 1))
  | 0 => ⟨fun _ _ _ _ h => by simp [sys] at h, fun _ _ _ _ h => by simp [sys] at h, fun _ _ _ _ _ _ h => by simp [sys] at h⟩
  | k + 1 => step_le F (sys_up k)

theorem sys_le {i : Nat} : ∀ {k : Nat}, i ≤ k → SLe (sys F i) (sys F k)
  | 0, h => by rw [Nat.le_zero.1 h]; exact SLe.refl _
  | k + 1, h => by
    by_cases e : i = k + 1
    · subst e; exact SLe.refl _
    · exact (sys_le (by omega)).trans (sys_up F k)

open Classical in
noncomputable def limO {α : Type} (g : Nat → Option α) : Option α := if h : ∃ k r, g k = some r then some (Classical.choose (Classical.choose_spec h)) else none

theorem limO_of {α : Type} {g : Nat → Option α} (hm : ∀ i k r, i ≤ k → g i = some r → g k = some r) {k : Nat} {r : α} (h : g k = some r) : limO g = some r := by
  have hx : ∃ k r, g k = some r := ⟨k, r, h⟩
  unfold limO
  rw [dif_pos hx]
  have h1 := Classical.choose_spec (Classical.choose_spec hx)
  have a := hm _ _ _ (Nat.le_max_left k (Classical.choose hx)) h
  have b := hm _ _ _ (Nat.le_max_right k (Classical.choose hx)) h1
  rw [a] at b
  exact b.symm

theorem limO_some {α : Type} {g : Nat → Option α} {r : α} (h : limO g = some r) : ∃ k, g k = some r := by
  unfold limO at h
  split at h
  · rename_i hx
    simp only [Option.some.injEq] at h
    have h1 := Classical.choose_spec (Classical.choose_spec hx)
    rw [h] at h1
    exact ⟨_, h1⟩
  · simp at h

noncomputable def lim : Sys where
  call f as n := limO fun k => (sys F k).call f as n
  inl f as st := limO fun k => (sys F k).inl f as st
  loop ks o c vs st := limO fun k => (sys F k).loop ks o c vs st

theorem sys_lim (k : Nat) : SLe (sys F k) (lim F) :=
  ⟨fun _ _ _ _ h => limO_of (fun _ _ _ l e => (sys_le F l).call _ _ _ _ e) h, fun _ _ _ _ h => limO_of (fun _ _ _ l e => (sys_le F l).inl _ _ _ _ e) h,
   fun _ _ _ _ _ _ h => limO_of (fun _ _ _ l e => (sys_le F l).loop _ _ _ _ _ _ e) h⟩

theorem lim_grows : Grows (lim F) (fun S => ∃ k, S = sys F k) :=
  ⟨fun _ _ _ _ h => by obtain ⟨k, h⟩ := limO_some h; exact ⟨_, ⟨k, rfl⟩, h⟩, fun _ _ _ _ h => by obtain ⟨k, h⟩ := limO_some h; exact ⟨_, ⟨k, rfl⟩, h⟩,
   fun _ _ _ _ _ _ h => by obtain ⟨k, h⟩ := limO_some h; exact ⟨_, ⟨k, rfl⟩, h⟩,
   fun S T hS hT => by
     obtain ⟨i, rfl⟩ := hS
     obtain ⟨k, rfl⟩ := hT
     exact ⟨_, ⟨max i k, rfl⟩, sys_le F (Nat.le_max_left i k), sys_le F (Nat.le_max_right i k)⟩,
   ⟨_, ⟨0, rfl⟩⟩⟩

theorem opt_ext {α : Type} {x y : Option α} (h : ∀ r, x = some r → y = some r) (k : ∀ r, y = some r → x = some r) : x = y := by
  cases x with
  | none => cases y with
    | none => rfl
    | some r => exact k r rfl
  | some r => exact (h r rfl).symm

theorem lim_call (f : Nat) (as : List AV) (n : Nat) : (lim F).call f as n = (stepR F (lim F)).call f as n := opt_ext
  (fun r h => by
    obtain ⟨k, h⟩ := limO_some h
    cases k with
    | zero => simp [sys] at h
    | succ k => exact (step_le F (sys_lim F k)).call _ _ _ _ h)
  (fun r h => by
    obtain ⟨S, ⟨k, rfl⟩, h⟩ := stepCall_cont F (lim_grows F) h
    exact (sys_lim F (k + 1)).call _ _ _ _ h)

theorem lim_inl (f : Nat) (as : List AV) (st : St) : (lim F).inl f as st = (stepR F (lim F)).inl f as st := opt_ext
  (fun r h => by
    obtain ⟨k, h⟩ := limO_some h
    cases k with
    | zero => simp [sys] at h
    | succ k => exact (step_le F (sys_lim F k)).inl _ _ _ _ h)
  (fun r h => by
    obtain ⟨S, ⟨k, rfl⟩, h⟩ := stepInl_cont F (lim_grows F) h
    exact (sys_lim F (k + 1)).inl _ _ _ _ h)

theorem lim_loop (ks o : List Nat) (c : ICode) (vs : List AV) (st : St) : (lim F).loop ks o c vs st = (stepR F (lim F)).loop ks o c vs st := opt_ext
  (fun r h => by
    obtain ⟨k, h⟩ := limO_some h
    cases k with
    | zero => simp [sys] at h
    | succ k => exact (step_le F (sys_lim F k)).loop _ _ _ _ _ _ h)
  (fun r h => by
    obtain ⟨S, ⟨k, rfl⟩, h⟩ := stepLoop_cont F (lim_grows F) h
    exact (sys_lim F (k + 1)).loop _ _ _ _ _ _ h)

theorem lim_some {f : Nat} {as : List AV} {n : Nat} {r : AV × Nat} (h : (lim F).call f as n = some r) : ∃ k, (sys F k).call f as n = some r := limO_some h

end

/-- A law's function, all that came in being trees of tag 0 (what lies below the heap's end). -/
theorem law_calls {P : Program} (h : Hint) (hm : P.follows .mixedOrders = true) {f : Nat} {as : List AV} {n' : Nat} {vals : Array Value} {w : World}
    (hr : (lim (compFn P h)).call f as 1 = some (.bool true, n')) (ht : treeL as = true) (hv : VRels { N0 := w.heap.size, T := fun _ => ⟨0, 0, 0⟩, Vd := fun _ => False, Rz := fun _ => False } w as vals.toList) :
    Calls P f vals w fun e w' => e = .returned (.bool true) ∧ Below w.heap.size w w' := by
  obtain ⟨k, hk⟩ := lim_some _ hr
  refine ((sys_all h hm k).so.call f as 1 _ n' hk _ w vals ?_ (fun t q => q) ht hv (fun t h1 h2 => ⟨by omega, fun q => q, fun q => q⟩)).mono ?_
  · exact ⟨Nat.le_refl _, Nat.le_refl _, fun b hb => hb.elim id (fun ⟨t, q, _⟩ => q.elim), fun t u q => q.elim, fun t q => q.elim, fun t q => q.elim, fun t q => q.elim (fun q => q.elim) (fun q => q.elim), fun t q => q.elim,
      fun j a q => by simp at q, fun j j' a a' q => by simp at q⟩
  · rintro e w' ⟨x, c', rfl, A⟩
    rw [bool_val A.rel]
    exact ⟨rfl, A.below⟩

end Go.Proofs.YtilbmpdeginabaaFw
