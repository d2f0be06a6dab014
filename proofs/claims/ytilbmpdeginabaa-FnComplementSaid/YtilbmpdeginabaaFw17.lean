/- The whole system of functions. Conditions: none beside each theorem's own. -/
import Derived.Test.YtilbmpdeginabaaFw16
namespace Go.Proofs.YtilbmpdeginabaaFw
open Go Go.RowKit
set_option linter.unusedSimpArgs false
set_option linter.unusedVariables false

section
variable {P : Program} {c : Cx} {w : World} {base : Nat}

theorem ptr_val {g : Bool} {s : Nat} {st : St} {x v : AV} {xv : Value} (hx : VRel c w x xv) (h : aLoad g s st x = some v) : ∃ ad, xv = .pointer (some ad) := by
  cases x <;> simp [aLoad] at h
  case eptr cs => simp only [VRel] at hx; obtain ⟨b, o, rfl, _⟩ := hx; exact ⟨_, rfl⟩
  case ptr j u i f => simp only [VRel] at hx; obtain ⟨_, _, rfl⟩ := hx; exact ⟨_, rfl⟩

def resM (tmps : Array Value) : ResultVar → Sem Value
  | .tmp t => pure (tmps.getD t undef)
  | .cell q t => do loadVar t (← asAddr (tmps.getD q undef))

theorem rvs_ok {A : Fr} {a : Act} {st : St} (hA : FRel c w A a) (S : Sim c w st.H base) : ∀ {l : List ResultVar} {rs : List RV} {vs : List AV}, resT P l = some rs → rvs A st rs = some vs →
    ∃ xs : List Value, (l.mapM (resM a.tmps)).run P w = .ok xs w ∧ VRels c w vs xs
  | [], rs, vs, h1, h2 => by
    simp [resT] at h1; subst h1
    simp [rvs] at h2; subst h2
    exact ⟨[], by simp, by simp [VRels]⟩
  | .tmp t :: l, rs, vs, h1, h2 => by
    simp only [resT] at h1
    obtain ⟨r, q1, rfl⟩ := map_some h1
    simp only [rvs] at h2
    obtain ⟨us, q2, h3⟩ := bind_some h2
    simp at h3; subst h3
    obtain ⟨xs, k1, k2⟩ := rvs_ok hA S q1 q2
    refine ⟨a.tmps.getD t undef :: xs, ?_, by simp only [VRels]; exact ⟨_, _, rfl, hA t, k2⟩⟩
    rw [List.mapM_cons]
    have e : (resM a.tmps (.tmp t)).run P w = .ok (a.tmps.getD t undef) w := by simp [resM]
    simp only [Sem.run_bind, e, Result.andThen, k1]
    simp
  | .cell q t :: l, rs, vs, h1, h2 => by
    simp only [resT] at h1
    cases ht : szOk P t with
    | false => rw [ht] at h1; simp at h1
    | true =>
      rw [ht] at h1; simp only [cond_true] at h1
      obtain ⟨r, q1, rfl⟩ := map_some h1
      simp only [rvs] at h2
      obtain ⟨v, h4, h2⟩ := bind_some h2
      obtain ⟨us, q2, h3⟩ := bind_some h2
      simp at h3; subst h3
      obtain ⟨xs, k1, k2⟩ := rvs_ok hA S q1 q2
      obtain ⟨y, y1, y2⟩ := run_load' (P := P) S rfl ht (hA q) h4
      obtain ⟨ad, had⟩ := ptr_val (hA q) h4
      refine ⟨y :: xs, ?_, by simp only [VRels]; exact ⟨_, _, rfl, y2, k2⟩⟩
      rw [List.mapM_cons]
      have e : (resM a.tmps (.cell q t)).run P w = .ok y w := by
        rw [had] at y1
        simp only [resM, had]
        simpa [Instr.loadAt, Instr.sureAddr, asAddr] using y1
      simp only [Sem.run_bind, e, Result.andThen, k1]
      simp

theorem results_ok {fn : Func} {A : Fr} {a : Act} {st : St} {rs : List RV} {vs : List AV} (hA : FRel c w A a) (S : Sim c w st.H base) (h1 : resT P fn.results.toList = some rs) (h2 : rvs A st rs = some vs) :
    ∃ v, (results fn a.tmps).run P w = .ok v w ∧ VRel c w (retV vs) v := by
  obtain ⟨xs, k1, k2⟩ := rvs_ok hA S h1 h2
  have hl := VRels_length k2
  refine ⟨if h : xs.toArray.size = 1 then xs.toArray[0] else .tuple xs.toArray, ?_, ?_⟩
  · have e : results fn a.tmps = (fn.results.mapM (resM a.tmps) >>= fun vs => pure (if h : vs.size = 1 then vs[0] else Value.tuple vs)) := by
      unfold results
      congr 1
    rw [e, Array.mapM_eq_mapM_toList]
    simp only [Sem.run_bind, Sem.run_map, k1, Result.andThen]
    simp
  · by_cases h : xs.toArray.size = 1
    · rw [dif_pos h]
      have : xs.length = 1 := by simpa using h
      obtain ⟨x, rfl⟩ := List.length_eq_one_iff.1 this
      obtain ⟨v, rfl⟩ := List.length_eq_one_iff.1 (hl.trans this)
      simp only [VRels] at k2
      obtain ⟨y, ys, e1, e2, _⟩ := k2
      simp at e1; obtain ⟨rfl, _⟩ := e1
      exact e2
    · rw [dif_neg h]
      have hne : vs.length ≠ 1 := fun e => h (by simp [← hl, e])
      have hv : retV vs = .tup vs := by
        cases vs with
        | nil => rfl
        | cons v vs =>
          cases vs with
          | nil => exact absurd rfl hne
          | cons u us => rfl
      rw [hv]
      simp only [VRel]
      exact ⟨xs.toArray, rfl, by simpa using k2⟩

/-- what a value's tree leads to -/
def tupL : AV → List AV
  | .tup vs => vs
  | v => [v]

theorem resTup_ok {st : St} {v r : AV} {x : Value} (S : Sim c w st.H base) (hv : VRel c w v x) (h : resTup st v = some r) :
    r.tree = true ∧ VRel (c.call (locs st (tupL v))) w r x ∧ ∀ p ∈ locs st (tupL v), LocOk c st.H p := by
  have one : ∀ {v r : AV}, tupL v = [v] → res st v = some r → VRel c w v x → r.tree = true ∧ VRel (c.call (locs st (tupL v))) w r x ∧ ∀ p ∈ locs st (tupL v), LocOk c st.H p := by
    intro v r e h hv
    rw [e]
    have h1 : mapO (res st) [v] = some [r] := by simp [mapO, h]
    have h2 : VRels c w [v] [x] := by simp only [VRels]; exact ⟨x, [], rfl, hv, rfl⟩
    obtain ⟨k1, k2⟩ := res_list S h1 h2
    simp only [treeL, Bool.and_true] at k1
    simp only [VRels] at k2
    obtain ⟨y, ys, e1, e2, _⟩ := k2
    simp at e1; obtain ⟨rfl, _⟩ := e1
    exact ⟨k1, e2, locs_ok S h1 h2⟩
  cases v
  case tup vs =>
    simp only [resTup] at h
    obtain ⟨rs, h1, h⟩ := bind_some h
    simp at h; subst h
    simp only [VRel] at hv
    obtain ⟨xs, rfl, hv⟩ := hv
    obtain ⟨k1, k2⟩ := res_list S h1 hv
    exact ⟨by simpa only [AV.tree] using k1, by simp only [VRel]; exact ⟨xs, rfl, k2⟩, locs_ok S h1 hv⟩
  all_goals exact one rfl h hv

theorem after_ok {c1 : Cx} {w1 : World} {n : Nat} {st : St} {v r : AV} {x : Value} (hR : ∀ t, ¬ c.Rz t) (Pz : Post c w w.heap.size n st.n c1 w1) (S : Sim c1 w1 st.H w.heap.size) (F : ∀ t, n ≤ t → t < st.n → Free c t)
    (hv : VRel c1 w1 v x) (h : resTup st v = some r) : ∃ c', After c w n st.n r x c' w1 := by
  obtain ⟨t1, t2, hL⟩ := resTup_ok S hv h
  have hRz : ∀ j t, (j, t) ∈ locs st (tupL v) → c1.Rz t → ∃ a, st.H j = some a ∧ a.tag = t := fun j t hj _ => (hL _ hj).2
  have mix : ∀ t u, c1.Vd t → c1.Rz u → (∃ j, (j, u) ∈ locs st (tupL v)) → (c1.T t).cap ≠ 0 → (c1.T u).cap ≠ 0 → (c1.T t).blk ≠ (c1.T u).blk := by
    rintro t u ht hu ⟨j, hj⟩ ct cu e
    obtain ⟨a, ha, e'⟩ := hRz j u hj hu
    subst e'
    exact ((S.arr j a ha hu).blk cu).2.1 (.inr ⟨t, ht, ct, e⟩)
  refine ⟨c1.call (locs st (tupL v)), t1, t2, ⟨Pz.ex.n0, fun t ht => absurd ht (hR t), fun t ht => ⟨.inl (Pz.ex.vd t ht).1, (Pz.ex.vd t ht).2⟩, Pz.ex.im⟩, Pz.below, fun t ht => ?_, fun t h => h, ?_, ?_, ?_, ?_, ?_⟩
  · obtain ⟨p1, p2, p3⟩ := Pz.off t ht
    refine ⟨p1, ⟨fun h => ?_, fun h => .inl (p3.2 h)⟩⟩
    rcases h with h | ⟨h, _⟩
    · exact p3.1 h
    · exact absurd (p2.1 h) (hR t)
  · rintro b (hb | ⟨t, ht, hc, hb⟩)
    · exact Nat.lt_of_lt_of_le hb (Nat.le_trans S.n0 S.hb)
    · rcases ht with ht | ⟨ht, j, hj⟩
      · exact S.im b (.inr ⟨t, ht, hc, hb⟩)
      · obtain ⟨a, ha, e⟩ := hRz j t hj ht
        subst e
        rw [← hb]; exact (S.arr j a ha ht).lt hc
  · intro t u ht hu ct cu e
    rcases ht with ht | ⟨ht, j, hj⟩ <;> rcases hu with hu | ⟨hu, j', hj'⟩
    · exact S.vinj t u ht hu ct cu e
    · exact absurd e (mix t u ht hu ⟨j', hj'⟩ ct cu)
    · exact absurd e.symm (mix u t hu ht ⟨j, hj⟩ cu ct)
    · obtain ⟨a, ha, e1⟩ := hRz j t hj ht
      obtain ⟨a', ha', e2⟩ := hRz j' u hj' hu
      subst e1; subst e2
      have := S.inj j j' a a' ha ha' ht hu ct cu e
      subst this
      rw [ha] at ha'; simp at ha'; rw [ha']
  · rintro t (ht | ⟨ht, _⟩)
    · exact S.pos t (.inr ht)
    · exact S.pos t (.inl ht)
  · rintro t (ht | ⟨ht, j, hj⟩) h1 h2 ct
    · exact S.vblk t ht ct
    · obtain ⟨a, ha, e⟩ := hRz j t hj ht
      subst e
      have ho := S.arr j a ha ht
      obtain ⟨_, _, ⟨cs, el, h1, h2⟩, _⟩ := ho.blk ct
      exact ⟨cs, el, h1, by rw [h2]; show _ = _ * (c1.T a.tag).s; rw [ho.s]; rfl⟩
  · rintro t (ht | ⟨ht, j, hj⟩) h1 h2 ct
    · rcases Pz.vnew t ht ct with h3 | h3
      · exact absurd h3 (F t h1 h2).2.2
      · exact h3
    · obtain ⟨a, ha, e⟩ := hRz j t hj ht
      subst e
      exact ((S.arr j a ha ht).blk ct).1

theorem frame0_rel {as : List AV} {vals : Array Value} {nt : Nat} (hv : VRels c w as vals.toList) : FRel c w (frame0 as) { tmps := vals ++ Array.replicate (nt - vals.size) undef, defers := [] } := by
  intro t
  have hl : as.length = vals.size := by rw [VRels_length hv]; simp
  by_cases ht : t < as.length
  · obtain ⟨x, x1, x2⟩ := VRels_get hv t as[t] (List.getElem?_eq_getElem ht)
    have e1 : frame0 as t = as[t] := by simp [frame0, List.getElem?_eq_getElem ht]
    have ht' : t < vals.size := by omega
    have e2 : (vals ++ Array.replicate (nt - vals.size) undef).getD t undef = x := by
      have h1 : vals[t]? = some x := by simpa using x1
      rw [← Array.getElem?_append_left (ys := Array.replicate (nt - vals.size) undef) ht'] at h1
      simp [Array.getD_eq_getD_getElem?, h1]
    rw [e1]; show VRel c w _ ((vals ++ Array.replicate (nt - vals.size) undef).getD t undef)
    rw [e2]; exact x2
  · have e1 : frame0 as t = .tup [] := by simp [frame0, List.getElem?_eq_none (Nat.not_lt.1 ht)]
    have e2 : (vals ++ Array.replicate (nt - vals.size) undef).getD t undef = undef := by
      rw [Array.getD_eq_getD_getElem?, Array.getElem?_append_right (by omega)]
      by_cases h2 : t - vals.size < nt - vals.size <;> simp [h2]
    rw [e1]; show VRel c w _ ((vals ++ Array.replicate (nt - vals.size) undef).getD t undef)
    rw [e2]; exact undef_rel

end

theorem compFn_some {P : Program} {h : Hint} {f : Nat} {fn : IFn} (e : compFn P h f = some fn) : ∃ (fc : Func) (c : Code), P.funcs[f]? = some fc ∧ fc.body = some c ∧ resT P fc.results.toList = some fn.rs ∧
    fn.np = fc.params.size ∧ fc.params.size ≤ fc.ntmps ∧ Imp P h f fc.ntmps fn.code c := by
  unfold compFn at e
  obtain ⟨fc, h1, e⟩ := bind_some e
  obtain ⟨c, h2, e⟩ := bind_some e
  obtain ⟨rs, h3, e⟩ := bind_some e
  obtain ⟨h4, e⟩ := if_some e
  simp at e; subst e
  exact ⟨fc, c, h1, h2, h3, rfl, h4.1, ann_imp (comp0_imp c) _ _ _⟩

structure SysAll (P : Program) (h : Hint) (R : Sys) : Prop where
  so : SysOk P R
  ls : LoopSnd P h R.loop
  lw : LoopWS R.loop

/-- a body's run, taken apart -/
theorem body_run {α : Type} {R : Sys} {ic : ICode} {A : Fr} {st : St} {rs : List RV} {g : List AV → St → Option α} {r : α}
    (e : (runK R ic A st fun x A st => match x with | .exit _ => none | _ => (rvs A st rs).bind fun vs => g vs st) = some r) :
    ∃ x A' st' vs, runD R ic A st = some (x, A', st') ∧ (∀ id, x ≠ .exit id) ∧ rvs A' st' rs = some vs ∧ g vs st' = some r := by
  rw [runK_bind] at e
  obtain ⟨⟨x, A', st'⟩, h1, e⟩ := bind_some e
  cases x with
  | exit id => simp at e
  | normal =>
    obtain ⟨vs, h2, h3⟩ := bind_some e
    exact ⟨_, A', st', vs, h1, by simp, h2, h3⟩
  | ret =>
    obtain ⟨vs, h2, h3⟩ := bind_some e
    exact ⟨_, A', st', vs, h1, by simp, h2, h3⟩

theorem call_run {F : Nat → Option IFn} {R : Sys} {f : Nat} {as : List AV} {n n' : Nat} {r : AV} (e : (stepR F R).call f as n = some (r, n')) :
    ∃ fn x A' st' vs, F f = some fn ∧ as.length = fn.np ∧ runD R fn.code (frame0 as) { H := fun _ => none, m := 0, n := n } = some (x, A', st') ∧ (∀ id, x ≠ .exit id) ∧ rvs A' st' fn.rs = some vs ∧ resTup st' (retV vs) = some r ∧ n' = st'.n := by
  simp only [stepR] at e
  obtain ⟨fn, h1, e⟩ := bind_some e
  obtain ⟨h2, e⟩ := if_some e
  obtain ⟨x, A', st', vs, h3, h4, h5, h6⟩ := body_run (g := fun vs st => (resTup st (retV vs)).bind fun v => some (v, st.n)) e
  obtain ⟨v, h7, h8⟩ := bind_some h6
  simp at h8
  exact ⟨fn, x, A', st', vs, h1, h2, h3, h4, h5, by rw [h7, h8.1], h8.2.symm⟩

theorem inl_run {F : Nat → Option IFn} {R : Sys} {f : Nat} {as : List AV} {st st' : St} {r : AV} (e : (stepR F R).inl f as st = some (r, st')) :
    ∃ fn x A' vs, F f = some fn ∧ as.length = fn.np ∧ runD R fn.code (frame0 as) st = some (x, A', st') ∧ (∀ id, x ≠ .exit id) ∧ rvs A' st' fn.rs = some vs ∧ r = retV vs := by
  simp only [stepR] at e
  obtain ⟨fn, h1, e⟩ := bind_some e
  obtain ⟨h2, e⟩ := if_some e
  obtain ⟨x, A', s1, vs, h3, h4, h5, h6⟩ := body_run (g := fun vs st => some (retV vs, st)) e
  simp at h6
  obtain ⟨rfl, rfl⟩ := h6
  exact ⟨fn, x, A', vs, h1, h2, h3, h4, h5, rfl⟩

theorem loop_run {F : Nat → Option IFn} {R : Sys} {keep out : List Nat} {ic : ICode} {vals : List AV} {st : St} {r : XT × List AV × St} (e : (stepR F R).loop keep out ic vals st = some r) :
    ∃ x A' s1, runD R ic (ofKeep keep vals) st = some (x, A', s1) ∧ ((x = .normal ∧ R.loop keep out ic (keep.map A') s1 = some r) ∨ (x ≠ .normal ∧ r = (x, out.map A', s1))) := by
  simp only [stepR] at e
  rw [runK_bind] at e
  obtain ⟨⟨x, A', s1⟩, h1, e⟩ := bind_some e
  refine ⟨x, A', s1, h1, ?_⟩
  cases x with
  | normal => exact .inl ⟨rfl, e⟩
  | exit id => simp at e; exact .inr ⟨by simp, e.symm⟩
  | ret => simp at e; exact .inr ⟨by simp, e.symm⟩

theorem ws0 (n : Nat) : WS { H := fun _ => none, m := 0, n := n } := fun i a h => by simp at h

theorem step_all {P : Program} {h : Hint} (hm : P.follows .mixedOrders = true) {R : Sys} (B : SysAll P h R) : SysAll P h (stepR (compFn P h) R) := by
  have hmono : CallMono (stepR (compFn P h) R).call := fun f as n r n' e => by
    obtain ⟨fn, x, A', st', vs, h1, h2, h3, h4, h5, h6, rfl⟩ := call_run e
    exact (runD_ws B.so.mono B.so.ws B.lw _ _ _ _ h3 (ws0 n)).2
  refine ⟨⟨?_, hmono, ?_, ?_⟩, ?_, ?_⟩
  · intro f as n r n' e c w vals S hR ht hv F
    obtain ⟨fn, x, A', st', vs, h1, h2, h3, h4, h5, h6, rfl⟩ := call_run e
    obtain ⟨fc, co, k1, k2, k3, k4, k5, k6⟩ := compFn_some h1
    have hsz : vals.size = fc.params.size := by have := VRels_length hv; simp at this; omega
    refine calls_of_wp k1 k2 ?_
    refine code_ok hm B.so B.ls B.lw k6 _ _ x A' st' h3 (ws0 n) c w _ w.heap.size _ (frame0_rel hv) (by simp; omega) S F ?_
    intro c1 w1 a1 q1 q2 q3 q4 q5
    obtain ⟨y, y1, y2⟩ := results_ok q3 q5 k3 h5
    obtain ⟨c', hc'⟩ := after_ok hR q4 q5 F y2 h6
    cases x with
    | exit id => exact absurd rfl (h4 id)
    | normal => exact ⟨q2, y, y1, y, c', rfl, hc'⟩
    | ret => exact ⟨q2, y, y1, y, c', rfl, hc'⟩
  · intro f as st r st' e c w base vals S W hv F
    obtain ⟨fn, x, A', vs, h1, h2, h3, h4, h5, rfl⟩ := inl_run e
    obtain ⟨fc, co, k1, k2, k3, k4, k5, k6⟩ := compFn_some h1
    have hsz : vals.size = fc.params.size := by have := VRels_length hv; simp at this; omega
    refine calls_of_wp k1 k2 ?_
    refine code_ok hm B.so B.ls B.lw k6 _ _ x A' st' h3 W c w _ base _ (frame0_rel hv) (by simp; omega) S F ?_
    intro c1 w1 a1 q1 q2 q3 q4 q5
    obtain ⟨y, y1, y2⟩ := results_ok q3 q5 k3 h5
    cases x with
    | exit id => exact absurd rfl (h4 id)
    | normal => exact ⟨q2, y, y1, y, c1, rfl, q4, q5, y2⟩
    | ret => exact ⟨q2, y, y1, y, c1, rfl, q4, q5, y2⟩
  · intro f as st r st' e W
    obtain ⟨fn, x, A', vs, h1, h2, h3, h4, h5, rfl⟩ := inl_run e
    exact runD_ws B.so.mono B.so.ws B.lw _ _ _ _ h3 W
  · intro keep out ic vals st x vals' st' e cur nt code I c w a base Q hA hz S W F K
    obtain ⟨x1, A1, s1, h1, h2⟩ := loop_run e
    obtain ⟨W1, n1⟩ := runD_ws B.so.mono B.so.ws B.lw _ _ _ _ h1 W
    simp only at n1 W1
    rcases h2 with ⟨rfl, h2⟩ | ⟨hx, h2⟩
    · obtain ⟨W2, n2⟩ := B.lw _ _ _ _ _ _ _ _ h2 W1
      refine LoopAt.of (code_ok hm B.so B.ls B.lw I _ _ _ A1 s1 h1 W c w a base _ hA hz S (fun t t1 t2 => F t t1 (by omega)) fun c1 w1 a1 q1 q2 q3 q4 q5 => ?_)
      refine B.ls _ _ _ _ _ _ _ _ h2 cur nt code I c1 w1 a1 base Q (FRel_keep q3 keep) q1 q5 W1 (fun t t1 t2 => q4.free (fun q => by omega) (F t (by omega) t2)) fun c2 w2 a2 r1 r2 r3 r4 r5 => ?_
      exact K c2 w2 a2 r1 (r2.trans q2) r3 (q4.trans r4 (Nat.le_refl _) n2 n1 (Nat.le_refl _)) r5
    · simp at h2; obtain ⟨rfl, rfl, rfl⟩ := h2
      refine LoopAt.of (code_ok hm B.so B.ls B.lw I _ _ _ A1 st' h1 W c w a base _ hA hz S F fun c1 w1 a1 q1 q2 q3 q4 q5 => ?_)
      have := K c1 w1 a1 q1 q2 (FRel_keep q3 out) q4 q5
      cases x with
      | normal => exact absurd rfl hx
      | exit id => exact this
      | ret => exact this
  · intro keep out ic vals st x vals' st' e W
    obtain ⟨x1, A1, s1, h1, h2⟩ := loop_run e
    obtain ⟨W1, n1⟩ := runD_ws B.so.mono B.so.ws B.lw _ _ _ _ h1 W
    rcases h2 with ⟨rfl, h2⟩ | ⟨hx, h2⟩
    · obtain ⟨W2, n2⟩ := B.lw _ _ _ _ _ _ _ _ h2 W1
      exact ⟨W2, Nat.le_trans n1 n2⟩
    · simp at h2; obtain ⟨rfl, rfl, rfl⟩ := h2
      exact ⟨W1, n1⟩

theorem sys_all {P : Program} (h : Hint) (hm : P.follows .mixedOrders = true) : ∀ k, SysAll P h (sys (compFn P h) k)
  | 0 => ⟨⟨fun f as n r n' e => by simp [sys] at e, fun f as n r n' e => by simp [sys] at e, fun f as st r st' e => by simp [sys] at e, fun f as st r st' e => by simp [sys] at e⟩,
      fun _ _ _ _ _ _ _ _ e => by simp [sys] at e, fun _ _ _ _ _ _ _ _ e => by simp [sys] at e⟩
  | k + 1 => step_all hm (sys_all h hm k)

end Go.Proofs.YtilbmpdeginabaaFw
