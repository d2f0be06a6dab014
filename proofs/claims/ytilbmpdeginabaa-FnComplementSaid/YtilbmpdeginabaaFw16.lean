/- Code beside its evaluator's code. Conditions: none beside each theorem's own. -/
import Derived.Test.YtilbmpdeginabaaFw15
namespace Go.Proofs.YtilbmpdeginabaaFw
open Go Go.RowKit
set_option linter.unusedSimpArgs false
set_option linter.unusedVariables false

def runD (R : Sys) (ic : ICode) (A : Fr) (st : St) : Option (XT × Fr × St) := runK R ic A st fun x A st => some (x, A, st)

theorem cnd_bind {α β : Type} (v : AV) (X Y : Option α) (f : α → Option β) : (cnd v X Y).bind f = cnd v (X.bind f) (Y.bind f) := by
  cases v
  case bool b => cases b <;> rfl
  all_goals rfl

theorem runK_bind {α : Type} (R : Sys) : ∀ (ic : ICode) (A : Fr) (st : St) (K : XT → Fr → St → Option α), runK R ic A st K = (runD R ic A st).bind fun r => K r.1 r.2.1 r.2.2
  | .bad, _, _, _ => rfl
  | .skip, _, _, _ => rfl
  | .ops l, A, st, K => by
    simp only [runD, runK]
    rw [opsK_R, opsK_R, bind_bind]; rfl
  | .seq a b, A, st, K => by
    simp only [runD, runK]
    rw [runK_bind R a, runK_bind R a A st fun x A st => seqX x A st (fun A st => runK R b A st fun x A st => some (x, A, st)) fun x A st => some (x, A, st), bind_bind]
    congr 1; funext r
    cases r.1 <;> simp only [seqX, Option.bind_some]
    rw [runK_bind R b]; rfl
  | .cond c x y, A, st, K => by
    cases c <;> simp only [runD, runK] <;> rw [cnd_bind, runK_bind R x, runK_bind R y] <;> rfl
  | .block id c, A, st, K => by
    simp only [runD, runK]
    rw [runK_bind R c, runK_bind R c A st fun x A st => blkX id x A st fun x A st => some (x, A, st), bind_bind]
    congr 1; funext r
    cases r.1 <;> simp only [blkX, Option.bind_some]
    rename_i i
    cases Nat.beq i id <;> rfl
  | .loop keep out c, A, st, K => by simp only [runD, runK, bind_bind, Option.bind_some]
  | .exit id, _, _, _ => rfl
  | .ret, _, _, _ => rfl

inductive Imp (P : Program) (h : Hint) (cur nt : Nat) : ICode → Code → Prop
  | bad (c : Code) : Imp P h cur nt .bad c
  | skip : Imp P h cur nt .skip .skip
  | ops (id : Nat) (ops : Array Oper) (draw : Bool) : (draw = true → afterOk ops.toList = true ∧ orderOk (ops.toList.map (compOper P h cur nt ops)) (befores ops.toList []) = true) →
      Imp P h cur nt (.ops (ops.toList.map (compOper P h cur nt ops))) (.region id ops draw)
  | seq {a b : ICode} {x y : Code} : Imp P h cur nt a x → Imp P h cur nt b y → Imp P h cur nt (.seq a b) (.seq x y)
  | cond {o : Operand} {c : Opd} {a b : ICode} {x y : Code} : od o = some c → Imp P h cur nt a x → Imp P h cur nt b y → Imp P h cur nt (.cond c a b) (.cond o x y)
  | block {id : Nat} {a : ICode} {x : Code} : Imp P h cur nt a x → Imp P h cur nt (.block id a) (.block id x)
  | loop {k o : List Nat} {a : ICode} {x : Code} : Imp P h cur nt a x → Imp P h cur nt (.loop k o a) (.loop x)
  | exit (id : Nat) : Imp P h cur nt (.exit id) (.exit id)
  | ret : Imp P h cur nt .ret .ret

section
variable {P : Program} {h : Hint} {cur nt : Nat}

theorem comp0_imp : ∀ c : Code, Imp P h cur nt (comp0 P h cur nt c) c
  | .skip => .skip
  | .region id ops draw => by
    simp only [comp0, compOps]
    cases hd : (draw && !(afterOk ops.toList && orderOk (ops.toList.map (compOper P h cur nt ops)) (befores ops.toList []))) with
    | true => exact .bad _
    | false =>
      refine .ops id ops draw fun e => ?_
      subst e
      simpa using hd
  | .seq a b => .seq (comp0_imp a) (comp0_imp b)
  | .cond o x y => by
    simp only [comp0]
    split
    · rename_i i e
      cases Nat.blt i nt with
      | true => exact .cond e (comp0_imp x) (comp0_imp y)
      | false => exact .bad _
    · rename_i c _ e
      exact .cond e (comp0_imp x) (comp0_imp y)
    · exact .bad _
  | .block id c => .block (comp0_imp c)
  | .loop c => .loop (comp0_imp c)
  | .exit id => .exit id
  | .ret => .ret
  | .rangeFunc .. => .bad _
  | .scope _ => .bad _
  | .label _ => .bad _
  | .goto _ => .bad _
  | .refuse _ => .bad _

theorem ann_imp {rs : List Nat} {ic : ICode} {c : Code} (H : Imp P h cur nt ic c) : ∀ (brk : Nat → List Nat) (acc out : List Nat), Imp P h cur nt (ann rs ic brk acc out) c := by
  induction H with
  | bad c => exact fun _ _ _ => .bad c
  | skip => exact fun _ _ _ => .skip
  | ops id ops draw hh => exact fun _ _ _ => .ops id ops draw hh
  | seq _ _ ia ib => exact fun _ _ _ => .seq (ia _ _ _) (ib _ _ _)
  | cond e _ _ ia ib => exact fun _ _ _ => .cond e (ia _ _ _) (ib _ _ _)
  | block _ ia => exact fun _ _ _ => .block (ia _ _ _)
  | loop _ ia => exact fun _ _ _ => .loop (ia _ _ _)
  | exit id => exact fun _ _ _ => .exit id
  | ret => exact fun _ _ _ => .ret
end

def exOf : XT → Exit
  | .normal => .normal
  | .exit id => .exit id
  | .ret => .ret

def LoopAt (P : Program) (c : Code) (Q : Exit → Act → World → Prop) (a : Act) (w : World) : Prop :=
  ∀ (b : Frame) (k : List Item) (cs : List Frame), ∃ e a' w', Q e a' w' ∧ Arrives P (lone (b.at a (.code c :: .inLoop c :: k)) cs w) b k cs e a' w'

theorem LoopAt.wp {P : Program} {c : Code} {Q : Exit → Act → World → Prop} {a : Act} {w : World} (H : LoopAt P c Q a w) : (Code.loop c).wp P Q a w := fun b k cs => by
  obtain ⟨e, a', w', hq, harr⟩ := H b k cs
  exact ⟨e, a', w', hq, .of_steps (.one step_loop) harr⟩

theorem LoopAt.of {P : Program} {c : Code} {Q : Exit → Act → World → Prop} {a : Act} {w : World} (H : c.wp P (Exit.then (LoopAt P c Q) Q) a w) : LoopAt P c Q a w := fun b k cs => by
  obtain ⟨e, a₁, w₁, hq, harr⟩ := H b (.inLoop c :: k) cs
  cases e with
  | normal =>
    obtain ⟨e₂, a₂, w₂, hq₂, harr₂⟩ := hq b k cs
    exact ⟨e₂, a₂, w₂, hq₂, .of_steps (Steps.trans harr (.one step_inLoop)) harr₂⟩
  | exit id => exact ⟨_, a₁, w₁, hq, .pass (x := .inLoop c) rfl (fun _ _ => .inl (by simp)) harr⟩
  | goto l => exact ⟨_, a₁, w₁, hq, .pass (x := .inLoop c) rfl (fun _ _ => .inl (by simp)) harr⟩
  | ret => exact ⟨_, a₁, w₁, hq, .pass (x := .inLoop c) rfl (fun _ _ => .inl (by simp)) harr⟩
  | panic ch => exact ⟨_, a₁, w₁, hq, .pass (x := .inLoop c) rfl (fun _ _ => .inl (by simp)) harr⟩
  | outgrown => exact ⟨_, a₁, w₁, hq, .pass (x := .inLoop c) rfl (fun _ _ => .inl (by simp)) harr⟩

theorem ofKeep_map (A : Fr) : ∀ (ks : List Nat) (t : Nat), ofKeep ks (ks.map A) t = A t ∨ ofKeep ks (ks.map A) t = .undef
  | [], t => .inr rfl
  | k :: ks, t => by
    simp only [List.map_cons, ofKeep]
    cases e : Nat.beq t k with
    | true => rw [Nat.eq_of_beq_eq_true e]; exact .inl rfl
    | false => exact ofKeep_map A ks t

theorem FRel_keep {c : Cx} {w : World} {A : Fr} {a : Act} (H : FRel c w A a) (ks : List Nat) : FRel c w (ofKeep ks (ks.map A)) a := fun t => by
  rcases ofKeep_map A ks t with e | e
  · rw [e]; exact H t
  · rw [e]; simp only [VRel]

def LoopSnd (P : Program) (h : Hint) (loop : List Nat → List Nat → ICode → List AV → St → Option (XT × List AV × St)) : Prop :=
  ∀ keep out ic vals st x vals' st', loop keep out ic vals st = some (x, vals', st') → ∀ cur nt code, Imp P h cur nt ic code → ∀ (c : Cx) (w : World) (a : Act) (base : Nat) (Q : Exit → Act → World → Prop),
    FRel c w (ofKeep keep vals) a → a.tmps.size = nt → Sim c w st.H base → WS st → (∀ t, st.n ≤ t → t < st'.n → Free c t) →
    (∀ c' w' a', a'.tmps.size = nt → a'.defers = a.defers → FRel c' w' (ofKeep out vals') a' → Post c w base st.n st'.n c' w' → Sim c' w' st'.H base → Q (exOf x) a' w') → LoopAt P code Q a w

def LoopWS (loop : List Nat → List Nat → ICode → List AV → St → Option (XT × List AV × St)) : Prop :=
  ∀ keep out ic vals st x vals' st', loop keep out ic vals st = some (x, vals', st') → WS st → WS st' ∧ st.n ≤ st'.n

theorem opsR_ws0 {R : Sys} (CM : CallMono R.call) (IW : InlWS R.inl) {l : List IOp} {A A' : Fr} {st st' : St} (h : opsR R l [] A st = some (A', st')) (W : WS st) : WS st' ∧ st.n ≤ st'.n :=
  opsR_ws CM IW h (by simp) W

theorem cnd_some {α : Type} {v : AV} {X Y : Option α} {r : α} (h : cnd v X Y = some r) : ∃ b, v = .bool b ∧ (if b then X else Y) = some r := by
  cases v <;> simp only [cnd] at h
  case bool b => cases b <;> exact ⟨_, rfl, h⟩
  all_goals simp at h

theorem fput_bool {A : Fr} {i : Nat} {b : Bool} (h : A i = .bool b) : fput A (some i) (.bool b) = A := by rw [← h]; exact fput_self A i

/-- a condition: which of the two was run -/
theorem cond_run {R : Sys} {o : Opd} {x y : ICode} {A : Fr} {st : St} {r : XT × Fr × St} (h : runD R (.cond o x y) A st = some r) : ∃ b, ev A o = .bool b ∧ runD R (if b then x else y) A st = some r := by
  cases o with
  | t i =>
    simp only [runD, runK] at h
    obtain ⟨b, hb, h⟩ := cnd_some h
    refine ⟨b, hb, ?_⟩
    cases b
    · simp only [Bool.false_eq_true, if_false] at h ⊢; rw [fput_bool hb] at h; exact h
    · simp only [if_true] at h ⊢; rw [fput_bool hb] at h; exact h
  | c v =>
    simp only [runD, runK] at h
    obtain ⟨b, hb, h⟩ := cnd_some h
    refine ⟨b, hb, ?_⟩
    cases b <;> exact h

theorem seq_run {R : Sys} {x y : ICode} {A : Fr} {st : St} {r : XT × Fr × St} (h : runD R (.seq x y) A st = some r) :
    ∃ e A1 s1, runD R x A st = some (e, A1, s1) ∧ ((e = .normal ∧ runD R y A1 s1 = some r) ∨ (e ≠ .normal ∧ r = (e, A1, s1))) := by
  simp only [runD, runK] at h
  rw [runK_bind] at h
  obtain ⟨⟨e, A1, s1⟩, h1, h⟩ := bind_some h
  refine ⟨e, A1, s1, h1, ?_⟩
  cases e with
  | normal => exact .inl ⟨rfl, h⟩
  | exit id => simp [seqX] at h; exact .inr ⟨by simp, h.symm⟩
  | ret => simp [seqX] at h; exact .inr ⟨by simp, h.symm⟩

theorem block_run {R : Sys} {id : Nat} {x : ICode} {A : Fr} {st : St} {r : XT × Fr × St} (h : runD R (.block id x) A st = some r) :
    ∃ e A1 s1, runD R x A st = some (e, A1, s1) ∧ r = ((match e with | .exit i => bif Nat.beq i id then .normal else .exit i | e => e), A1, s1) := by
  simp only [runD, runK] at h
  rw [runK_bind] at h
  obtain ⟨⟨e, A1, s1⟩, h1, h⟩ := bind_some h
  refine ⟨e, A1, s1, h1, ?_⟩
  cases e with
  | exit i => simp only [blkX] at h; cases hb : Nat.beq i id <;> rw [hb] at h <;> simp at h <;> simp [hb, h]
  | normal => simp [blkX] at h; exact h.symm
  | ret => simp [blkX] at h; exact h.symm

theorem runD_ws {R : Sys} (CM : CallMono R.call) (IW : InlWS R.inl) (LW : LoopWS R.loop) : ∀ (ic : ICode) (A : Fr) (st : St) (r : XT × Fr × St), runD R ic A st = some r → WS st → WS r.2.2 ∧ st.n ≤ r.2.2.n
  | .bad, _, _, _, h, _ => by simp [runD, runK] at h
  | .skip, A, st, r, h, W => by simp [runD, runK] at h; subst h; exact ⟨W, Nat.le_refl _⟩
  | .ops l, A, st, r, h, W => by
    simp only [runD, runK] at h
    rw [opsK_R] at h
    obtain ⟨⟨A1, s1⟩, h1, h⟩ := bind_some h
    simp at h; subst h
    exact opsR_ws0 CM IW h1 W
  | .seq a b, A, st, r, h, W => by
    obtain ⟨e, A1, s1, h1, h2⟩ := seq_run h
    obtain ⟨W1, n1⟩ := runD_ws CM IW LW a A st _ h1 W
    rcases h2 with ⟨_, h2⟩ | ⟨_, rfl⟩
    · obtain ⟨W2, n2⟩ := runD_ws CM IW LW b A1 s1 r h2 W1
      exact ⟨W2, Nat.le_trans n1 n2⟩
    · exact ⟨W1, n1⟩
  | .cond o x y, A, st, r, h, W => by
    obtain ⟨b, _, h1⟩ := cond_run h
    cases b
    · exact runD_ws CM IW LW y A st r h1 W
    · exact runD_ws CM IW LW x A st r h1 W
  | .block id x, A, st, r, h, W => by
    obtain ⟨e, A1, s1, h1, rfl⟩ := block_run h
    exact runD_ws CM IW LW x A st (e, A1, s1) h1 W
  | .loop k o c, A, st, r, h, W => by
    simp only [runD, runK] at h
    obtain ⟨⟨e, v, s⟩, h1, h⟩ := bind_some h
    simp at h; subst h
    exact LW _ _ _ _ _ _ _ _ h1 W
  | .exit id, A, st, r, h, W => by simp [runD, runK] at h; subst h; exact ⟨W, Nat.le_refl _⟩
  | .ret, A, st, r, h, W => by simp [runD, runK] at h; subst h; exact ⟨W, Nat.le_refl _⟩

theorem Sim_drawn {c : Cx} {w : World} {H : Nat → Option LArr} {base : Nat} (n : Nat) (S : Sim c w H base) : Ex c w c { w with drawn := n } ∧ Below base w { w with drawn := n } ∧ Sim c { w with drawn := n } H base := by
  have X : Ex c w c { w with drawn := n } := ⟨rfl, fun _ h => ⟨h, rfl⟩, fun _ h => ⟨h, rfl⟩, fun b hb q => rfl⟩
  refine ⟨X, ⟨rfl, rfl, rfl, Nat.le_refl _, fun _ _ => rfl⟩, S.n0, S.hb, S.im, S.vinj, S.vb, S.vblk, S.pos, S.dis, fun j a ha hr => ?_, S.inj⟩
  have ho := S.arr j a ha hr
  exact ⟨ho.s, ho.pos, ho.len, fun hc => by
    obtain ⟨b1, b2, b3, b5⟩ := ho.blk hc
    exact ⟨b1, b2, b3, ERel_own X (fun q => rfl) b5⟩⟩

section
variable {P : Program} {h : Hint} {cur nt : Nat} {R : Sys}

theorem code_ok (hm : P.follows .mixedOrders = true) (SO : SysOk P R) (LS : LoopSnd P h R.loop) (LW : LoopWS R.loop) {ic : ICode} {code : Code} (I : Imp P h cur nt ic code) :
    ∀ (A : Fr) (st : St) (x : XT) (A' : Fr) (st' : St), runD R ic A st = some (x, A', st') → WS st → ∀ (c : Cx) (w : World) (a : Act) (base : Nat) (Q : Exit → Act → World → Prop),
      FRel c w A a → a.tmps.size = nt → Sim c w st.H base → (∀ t, st.n ≤ t → t < st'.n → Free c t) →
      (∀ c' w' a', a'.tmps.size = nt → a'.defers = a.defers → FRel c' w' A' a' → Post c w base st.n st'.n c' w' → Sim c' w' st'.H base → Q (exOf x) a' w') → code.wp P Q a w := by
  induction I with
  | bad c => intro A st x A' st' hr; simp [runD, runK] at hr
  | skip =>
    intro A st x A' st' hr W c w a base Q hA hz S F K
    simp [runD, runK] at hr; obtain ⟨rfl, rfl, rfl⟩ := hr
    exact wp_skip (K c w a hz rfl hA (Post.same _ _ _ _ _) S)
  | exit id =>
    intro A st x A' st' hr W c w a base Q hA hz S F K
    simp [runD, runK] at hr; obtain ⟨rfl, rfl, rfl⟩ := hr
    exact wp_exit (K c w a hz rfl hA (Post.same _ _ _ _ _) S)
  | ret =>
    intro A st x A' st' hr W c w a base Q hA hz S F K
    simp [runD, runK] at hr; obtain ⟨rfl, rfl, rfl⟩ := hr
    exact wp_ret (K c w a hz rfl hA (Post.same _ _ _ _ _) S)
  | ops id ops draw hd =>
    intro A st x A' st' hr W c w a base Q hA hz S F K
    simp only [runD, runK] at hr
    rw [opsK_R] at hr
    obtain ⟨⟨A1, s1⟩, h1, hr⟩ := bind_some hr
    simp at hr; obtain ⟨rfl, rfl, rfl⟩ := hr
    cases draw with
    | false =>
      refine wp_region ?_
      rw [List.range_eq_range', ← Array.length_toList]
      exact seq_ok SO ops.toList 0 (by simp) [] A A1 st s1 c w a h1 (by simp) W hA hz S F K
    | true =>
      obtain ⟨hd1, hd2⟩ := hd rfl
      obtain ⟨As, ss, vs, Wy, e1, e2, e3, e4⟩ := opsR_way h1 (by simp)
      have hll : (ops.toList.map (compOper P h cur nt ops)).length = ops.size := by simp
      rw [hll] at e3 e4
      have hws : ∀ k, k ≤ ops.size → WS (ss k) := by
        intro k
        induction k with
        | zero => intro _; rw [e2]; exact W
        | succ k ih =>
          intro hk
          have hx : (ops.toList.map (compOper P h cur nt ops))[k]? = some ((ops.toList.map (compOper P h cur nt ops))[k]'(by rw [hll]; omega)) := List.getElem?_eq_getElem _
          exact ((Wy.step k _ hx).2.ws SO.mono SO.ws (ih (by omega))).1
      have hmono : ∀ i k, i ≤ k → k ≤ ops.size → (ss i).n ≤ (ss k).n := by
        intro i k
        induction k with
        | zero => intro h1 _; rw [Nat.le_zero.1 h1]; exact Nat.le_refl _
        | succ k ih =>
          intro h1 hk
          by_cases e : i = k + 1
          · subst e; exact Nat.le_refl _
          · have hx : (ops.toList.map (compOper P h cur nt ops))[k]? = some ((ops.toList.map (compOper P h cur nt ops))[k]'(by rw [hll]; omega)) := List.getElem?_eq_getElem _
            exact Nat.le_trans (ih (by omega) (by omega)) ((Wy.step k _ hx).2.ws SO.mono SO.ws (hws k (by omega))).2
      have G : Reg P R h cur nt ops As ss vs := ⟨SO, Wy, hws, hmono, hd1, hd2⟩
      obtain ⟨X1, B1, S1⟩ := Sim_drawn (w.drawn + 1) S
      refine wp_region_any hm ?_
      obtain ⟨J, j1, j2, j3, j4⟩ := nextW (ops.toList.map (compOper P h cur nt ops)) ops.size ops.size 0 (by omega)
      have Lz : ∀ i, Lf (Array.replicate ops.size false) i = false := fun i => by
        unfold Lf
        by_cases hi : i < ops.size <;> simp [hi]
      have St0 := still SO.mono Wy (fun k hk => hws k (by rw [hll] at hk; exact hk)) 0 J j1 (by rw [hll]; exact j2) j3
      have Fr0 : ∀ j, j < ops.size → ∀ t, (ss j).n ≤ t → t < (ss (j + 1)).n → Free c t := fun j hj t ht1 ht2 => by
        have q1 := hmono 0 j (by omega) (by omega)
        have q2 := hmono (j + 1) ops.size (by omega) (by omega)
        rw [e2] at q1; rw [e4] at q2
        exact F t (by omega) (by show t < s1.n; omega)
      have unr : ∀ i b, (ss J).H i = some b → c.Rz b.tag → st.H i = some b := fun i b hb hr => by
        rcases St0.back i b hb with hb | ⟨_, _, q, io, q1, q2, q3, q4, q5, q6⟩
        · rw [e2] at hb; exact hb
        · exact absurd hr (Fr0 q (by omega) b.tag q5 q6).2.1
      have D : DI P base h cur nt ops As ss vs c { w with drawn := w.drawn + 1 } a.defers J (Array.replicate ops.size false) a { w with drawn := w.drawn + 1 } c := by
        refine ⟨by simp, hz, rfl, fun i hi => absurd hi (by rw [Lz]; exact Bool.false_ne_true), j2, fun i io h1 h2 h3 => absurd h3 (j3 i io (by omega) h1 h2), fun h1 => ⟨Lz J, j4 h1⟩, Post.same _ _ _ _ _, ?_, ?_, fun j hj _ t ht1 ht2 => Fr0 j hj t ht1 ht2⟩
        · exact ⟨S1.n0, S1.hb, S1.im, S1.vinj, S1.vb, S1.vblk, S1.pos, S1.dis, fun i b hb hr => S1.arr i b (unr i b hb hr) hr,
            fun i i' b b' hb hb' hr hr' => S1.inj i i' b b' (unr i b hb hr) (unr i' b' hb' hr') hr hr'⟩
        · have : AE (As 0) (dsts (ops.toList.map (compOper P h cur nt ops))) vs (Lf (Array.replicate ops.size false)) ops.size = A := by
            funext t
            rw [AE_past 0 t ops.size (fun i _ _ _ => Lz i) (by omega)]
            show As 0 t = A t
            rw [e1]
          rw [this]; exact FRel_ex X1 hA
      refine any_ok G (c0 := c) (w0 := { w with drawn := w.drawn + 1 }) (base := base) (df := a.defers) (fun c' w' a' q1 q2 q3 q4 q5 => ?_) ops.size J _ a _ c D (by simp [List.countP_replicate])
      rw [e3] at q3; rw [e2, e4] at q4; rw [e4] at q5
      refine K c' w' a' q1 q2 q3 ⟨X1.trans q4.ex, B1.trans q4.below, q4.off, q4.vnew⟩ q5
  | seq Ia Ib iha ihb =>
    intro A st x A' st' hr W c w a base Q hA hz S F K
    obtain ⟨e, A1, s1, h1, h2⟩ := seq_run hr
    obtain ⟨W1, n1⟩ := runD_ws SO.mono SO.ws LW _ A st _ h1 W
    simp only at W1 n1
    rcases h2 with ⟨rfl, h2⟩ | ⟨he, h2⟩
    · obtain ⟨W2, n2⟩ := runD_ws SO.mono SO.ws LW _ A1 s1 _ h2 W1
      simp only at n2
      refine wp_seq (iha A st _ A1 s1 h1 W c w a base _ hA hz S (fun t t1 t2 => F t t1 (Nat.lt_of_lt_of_le t2 n2)) fun c1 w1 a1 q1 q2 q3 q4 q5 => ?_)
      refine ihb A1 s1 x A' st' h2 W1 c1 w1 a1 base Q q3 q1 q5 (fun t t1 t2 => q4.free (fun q => by omega) (F t (by omega) t2)) fun c2 w2 a2 r1 r2 r3 r4 r5 => ?_
      exact K c2 w2 a2 r1 (r2.trans q2) r3 (q4.trans r4 (Nat.le_refl _) n2 n1 (Nat.le_refl _)) r5
    · simp at h2; obtain ⟨rfl, rfl, rfl⟩ := h2
      refine wp_seq (iha A st _ A' st' h1 W c w a base _ hA hz S F fun c1 w1 a1 q1 q2 q3 q4 q5 => ?_)
      have := K c1 w1 a1 q1 q2 q3 q4 q5
      cases x with
      | normal => exact absurd rfl he
      | exit id => exact this
      | ret => exact this
  | cond ho Ia Ib iha ihb =>
    intro A st x A' st' hr W c w a base Q hA hz S F K
    obtain ⟨b, hb, hr⟩ := cond_run hr
    have hv := od_rel hA ho
    rw [hb] at hv
    refine wp_cond (bool_val hv) ?_
    cases b
    · exact ihb A st x A' st' hr W c w a base Q hA hz S F K
    · exact iha A st x A' st' hr W c w a base Q hA hz S F K
  | block Ia iha =>
    rename_i id _ _
    intro A st x A' st' hr W c w a base Q hA hz S F K
    obtain ⟨e, A1, s1, h1, h2⟩ := block_run hr
    simp at h2; obtain ⟨rfl, rfl, rfl⟩ := h2
    refine wp_block (iha A st _ A' st' h1 W c w a base _ hA hz S F fun c1 w1 a1 q1 q2 q3 q4 q5 => ?_)
    have := K c1 w1 a1 q1 q2 q3 q4 q5
    cases e with
    | normal => exact this
    | ret => exact this
    | exit i =>
      simp only [exOf, Exit.inBlock]
      by_cases hi : i = id
      · subst hi; simp at this; simpa [exOf] using this
      · have hb : Nat.beq i id = false := by
          cases hb : Nat.beq i id with
          | false => rfl
          | true => exact absurd (Nat.eq_of_beq_eq_true hb) hi
        simp only [hb, cond_false] at this
        rw [if_neg hi]; exact this
  | loop Ia iha =>
    intro A st x A' st' hr W c w a base Q hA hz S F K
    simp only [runD, runK] at hr
    obtain ⟨⟨e, v, s⟩, h1, hr⟩ := bind_some hr
    simp at hr; obtain ⟨rfl, rfl, rfl⟩ := hr
    exact (LS _ _ _ _ _ _ _ _ h1 cur nt _ Ia c w a base Q (FRel_keep hA _) hz S W F K).wp

end
end Go.Proofs.YtilbmpdeginabaaFw
