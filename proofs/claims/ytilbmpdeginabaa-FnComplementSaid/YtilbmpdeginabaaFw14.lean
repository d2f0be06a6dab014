/- A region whose order is drawn. Conditions: none beside each theorem's own. -/
import Derived.Test.YtilbmpdeginabaaFw13
namespace Go.Proofs.YtilbmpdeginabaaFw
open Go Go.RowKit
set_option linter.unusedSimpArgs false
set_option linter.unusedVariables false

/-! ### the frame after some of the operations -/
def AE (A : Fr) (dst : Nat → Option Nat) (vs : Nat → AV) (L : Nat → Bool) : Nat → Fr
  | 0 => A
  | k + 1 => bif L k then fput (AE A dst vs L k) (dst k) (vs k) else AE A dst vs L k

theorem fput_off {A : Fr} {d : Option Nat} {v : AV} {t : Nat} (h : d ≠ some t) : fput A d v t = A t := by
  cases d with
  | none => rfl
  | some d => exact fput_ne A v fun e => h (by rw [e])

theorem fput_on {A : Fr} {d : Option Nat} {v : AV} {t : Nat} (h : d = some t) : fput A d v t = v := by
  subst h; exact fput_at A t v

section
variable {A : Fr} {dst : Nat → Option Nat} {vs : Nat → AV} {As : Nat → Fr} {L L' : Nat → Bool}

theorem AE_upto (h0 : As 0 = A) : ∀ j, (∀ k, k < j → As (k + 1) = fput (As k) (dst k) (vs k)) → ∀ t, (∀ i, i < j → dst i = some t → L i = true) → AE A dst vs L j t = As j t
  | 0, _, t, _ => by rw [h0]; rfl
  | j + 1, hs, t, h => by
    have ih := AE_upto h0 j (fun k hk => hs k (by omega)) t (fun i hi => h i (by omega))
    rw [hs j (Nat.lt_succ_self j)]
    simp only [AE]
    by_cases hd : dst j = some t
    · rw [h j (Nat.lt_succ_self j) hd, cond_true, fput_on hd, fput_on hd]
    · rw [fput_off hd, ← ih]
      cases L j with
      | true => exact fput_off hd
      | false => rfl

theorem AE_past (j : Nat) (t : Nat) : ∀ n, (∀ i, j ≤ i → i < n → dst i = some t → L i = false) → j ≤ n → AE A dst vs L n t = AE A dst vs L j t
  | 0, _, hj => by rw [Nat.le_zero.1 hj]
  | n + 1, h, hj => by
    by_cases e : j = n + 1
    · rw [e]
    · rw [← AE_past j t n (fun i a b => h i a (by omega)) (by omega)]
      simp only [AE]
      by_cases hd : dst n = some t
      · rw [h n (by omega) (Nat.lt_succ_self n) hd]; rfl
      · cases L n with
        | true => exact fput_off hd
        | false => rfl

theorem AE_same {j : Nat} (hL : ∀ i, i ≠ j → L' i = L i) {t : Nat} (hd : dst j ≠ some t) : ∀ n, AE A dst vs L' n t = AE A dst vs L n t
  | 0 => rfl
  | n + 1 => by
    have ih := AE_same hL hd n
    simp only [AE]
    by_cases e : n = j
    · subst e
      cases L' n <;> cases L n <;> simp only [cond_true, cond_false, fput_off hd, ih]
    · rw [hL n e]
      cases L n with
      | false => exact ih
      | true =>
        simp only [cond_true]
        by_cases hd : dst n = some t
        · rw [fput_on hd, fput_on hd]
        · rw [fput_off hd, fput_off hd]; exact ih

theorem AE_put {j n : Nat} (hj : j < n) (hL : ∀ i, i ≠ j → L' i = L i) (hj' : L' j = true) (hd : ∀ d, dst j = some d → ∀ i, j < i → i < n → dst i = some d → L i = false) :
    AE A dst vs L' n = fput (AE A dst vs L n) (dst j) (vs j) := by
  funext t
  by_cases e : dst j = some t
  · rw [fput_on e, AE_past (j + 1) t n (fun i a b c => by rw [hL i (by omega)]; exact hd t e i (by omega) b c) (by omega)]
    simp only [AE, hj', cond_true]
    exact fput_on e
  · rw [fput_off e]; exact AE_same hL e n
end

/-! ### what must come first -/
theorem mem_addL {l : List Nat} {t u : Nat} (h : u ∈ addL l t) : u = t ∨ u ∈ l := by
  unfold addL at h
  cases hc : l.contains t with
  | true => rw [hc] at h; exact .inr h
  | false => rw [hc] at h; simpa using h

theorem mem_unionL {a b : List Nat} {u : Nat} (h : u ∈ unionL a b) : u ∈ a ∨ u ∈ b := by
  unfold unionL at h
  induction a generalizing b with
  | nil => exact .inr h
  | cons x a ih =>
    rcases ih h with h | h
    · exact .inl (List.mem_cons_of_mem _ h)
    · rcases mem_addL h with rfl | h
      · exact .inl (List.mem_cons_self)
      · exact .inr h

theorem befores_len : ∀ (os : List Oper) (acc : List (List Nat)), (befores os acc).length = acc.length + os.length
  | [], acc => by simp [befores]
  | o :: os, acc => by simp only [befores]; rw [befores_len]; simp; omega

theorem befores_keep : ∀ (os : List Oper) (acc : List (List Nat)) (k : Nat), k < acc.length → (befores os acc)[k]? = acc[k]?
  | [], acc, k, h => rfl
  | o :: os, acc, k, h => by
    simp only [befores]
    rw [befores_keep os _ k (by simp; omega), List.getElem?_append_left h]

theorem fold_bef (acc : List (List Nat)) (Pd : Nat → Prop) : ∀ (es : List Edge) (s : List Nat), (∀ b ∈ s, Pd b) → (∀ e ∈ es, Region.binds .any e = true → Pd e.on ∧ ∀ b ∈ (acc[e.on]?).getD [], Pd b) →
    ∀ b ∈ es.foldl (fun s e => bif Region.binds .any e then unionL (addL ((acc[e.on]?).getD []) e.on) s else s) s, Pd b
  | [], s, hs, _, b, hb => hs b hb
  | e :: es, s, hs, he, b, hb => by
    simp only [List.foldl_cons] at hb
    refine fold_bef acc Pd es _ ?_ (fun e' h' => he e' (List.mem_cons_of_mem _ h')) b hb
    intro u hu
    cases hbd : Region.binds .any e with
    | false => rw [hbd] at hu; exact hs u hu
    | true =>
      rw [hbd] at hu
      obtain ⟨p1, p2⟩ := he e List.mem_cons_self hbd
      rcases mem_unionL hu with hu | hu
      · rcases mem_addL hu with rfl | hu
        · exact p1
        · exact p2 u hu
      · exact hs u hu

theorem befores_clos (Pd : Nat → Prop) : ∀ (os : List Oper) (acc : List (List Nat)) (i : Nat) (o : Oper), os[i]? = some o →
    (∀ e ∈ o.after.toList, Region.binds .any e = true → Pd e.on ∧ ∀ b ∈ ((befores os acc)[e.on]?).getD [], Pd b) → ∀ b ∈ ((befores os acc)[acc.length + i]?).getD [], Pd b
  | [], acc, i, o, h, _ => by simp at h
  | x :: os, acc, 0, o, h, he => by
    simp at h; subst h
    simp only [befores] at he ⊢
    rw [befores_keep os _ (acc.length + 0) (by simp)]
    simp only [Nat.add_zero, List.getElem?_concat_length, Option.getD_some]
    refine fold_bef acc Pd _ [] (by simp) fun e h1 h2 => ?_
    obtain ⟨p1, p2⟩ := he e h1 h2
    refine ⟨p1, fun b hb => p2 b ?_⟩
    by_cases hlt : e.on < acc.length
    · rw [befores_keep os _ e.on (by simp; omega), List.getElem?_append_left hlt]; exact hb
    · rw [List.getElem?_eq_none (by omega)] at hb; simp at hb
  | x :: os, acc, i + 1, o, h, he => by
    simp only [befores] at he ⊢
    have := befores_clos Pd os (acc ++ [x.after.toList.foldl (fun s e => bif Region.binds .any e then unionL (addL ((acc[e.on]?).getD []) e.on) s else s) []]) i o (by simpa using h) he
    simpa [Nat.add_assoc, Nat.add_comm 1 i] using this

theorem orderOk_get {l : List IOp} {b : List (List Nat)} (h : orderOk l b = true) {i j : Nat} {x y : IOp} (hij : i < j) (hi : l[i]? = some x) (hj : l[j]? = some y) :
    i ∈ (b[j]?).getD [] ∨ clash x y = false := by
  have hlt : j < l.length := by
    rcases Nat.lt_or_ge j l.length with h | h
    · exact h
    · rw [List.getElem?_eq_none h] at hj; simp at hj
  have h1 := List.all_eq_true.1 h j (by simpa using hlt)
  have h2 := List.all_eq_true.1 h1 i (by simpa using hij)
  rw [hi, hj] at h2
  simp only [Bool.or_eq_true, Bool.not_eq_true', Option.getD_some, List.contains_iff_mem] at h2
  exact h2

theorem clash_no {x y : IOp} (h : clash x y = false) :
    (∀ d, x.dst = some d → d ∉ iopT y ∧ y.dst ≠ some d) ∧ (∀ d, y.dst = some d → d ∉ iopT x) ∧ (cls x.op = 2 → cls y.op = 0) ∧ (cls y.op = 2 → cls x.op = 0) := by
  unfold clash at h
  simp only [Bool.or_eq_false_iff] at h
  obtain ⟨⟨⟨h1, h2⟩, h3⟩, h4⟩ := h
  refine ⟨fun d hd => ?_, fun d hd => ?_, fun hc => ?_, fun hc => ?_⟩
  · rw [hd] at h1
    simp only [Bool.or_eq_false_iff] at h1
    refine ⟨fun hm => ?_, fun he => ?_⟩
    · have : (iopT y).contains d = true := by simpa using hm
      rw [this] at h1; cases h1.1
    · rw [he] at h1; simp at h1
  · rw [hd] at h2
    intro hm
    have : (iopT x).contains d = true := by simpa using hm
    simp [this] at h2; exact h2 hm
  · rw [hc] at h3
    simp at h3; exact h3
  · rw [hc] at h4
    simp at h4; exact h4

/-! ### stretches without a write -/
section
variable {R : Sys} {l : List IOp} {As : Nat → Fr} {ss : Nat → St} {vs : Nat → AV}

theorem Took.kind (CM : CallMono R.call) {io : IOp} {A : Fr} {v : AV} {st st' : St} (h : Took R io A v st st') (hc : cls io.op ≠ 2) :
    (st' = st) ∨ (cls io.op = 1 ∧ ((st'.H = st.H ∧ st'.m = st.m ∧ st.n ≤ st'.n) ∨ ∃ s es, st' = st.new s es)) := by
  rcases h with ⟨_, h⟩ | ⟨_, _, h⟩
  · have : cls io.op = 0 ∨ cls io.op = 1 := by
      have : cls io.op ≤ 2 := by
        cases io.op <;> simp only [cls] <;> try omega
        case call f as inl d => cases (inl || !Nat.beq d 0) <;> simp
      omega
    rcases this with h0 | h1
    · exact .inl (op0 h0 h).1
    · exact .inr ⟨h1, op1n CM h1 h⟩
  · exact .inl h

structure Still (l : List IOp) (ss : Nat → St) (i k : Nat) : Prop where
  le : HLe (ss i).H (ss k).H
  back : ∀ j a, (ss k).H j = some a → (ss i).H j = some a ∨ ((ss i).n ≤ a.tag ∧ (a.tag = (ss i).n → j = (ss i).m) ∧ ∃ q io, i ≤ q ∧ q < k ∧ l[q]? = some io ∧ cls io.op = 1 ∧ (ss q).n ≤ a.tag ∧ a.tag < (ss (q + 1)).n)
  m : (ss k).n = (ss i).n → (ss k).m = (ss i).m
  mono : (ss i).n ≤ (ss k).n

theorem still (CM : CallMono R.call) (W : Way R l As ss vs) (hW : ∀ k, k ≤ l.length → WS (ss k)) (i : Nat) : ∀ k, i ≤ k → k ≤ l.length → (∀ q io, i ≤ q → q < k → l[q]? = some io → cls io.op ≠ 2) → Still l ss i k
  | 0, hk, _, _ => by
    have : i = 0 := by omega
    subst this
    exact ⟨fun _ _ h => h, fun _ _ h => .inl h, fun _ => rfl, Nat.le_refl _⟩
  | k + 1, hk, hl, hq => by
    by_cases e : i = k + 1
    · subst e; exact ⟨fun _ _ h => h, fun _ _ h => .inl h, fun _ => rfl, Nat.le_refl _⟩
    · have ih := still CM W hW i k (by omega) (by omega) (fun q io a b => hq q io a (by omega))
      have hlk : l[k]? = some l[k] := List.getElem?_eq_getElem (by omega)
      rcases ((W.step k _ hlk).2).kind CM (hq k _ (by omega) (by omega) hlk) with e1 | ⟨c1, ⟨e1, e2, e3⟩ | ⟨s, es, e1⟩⟩
      · refine ⟨by rw [e1]; exact ih.le, fun j a h => ?_, by rw [e1]; exact ih.m, by rw [e1]; exact ih.mono⟩
        rw [e1] at h
        rcases ih.back j a h with h | ⟨h1, h2, q, io, q1, q2, q3⟩
        · exact .inl h
        · exact .inr ⟨h1, h2, q, io, q1, by omega, q3⟩
      · refine ⟨by rw [e1]; exact ih.le, fun j a h => ?_, fun h => ?_, Nat.le_trans ih.mono e3⟩
        · rw [e1] at h
          rcases ih.back j a h with h | ⟨h1, h2, q, io, q1, q2, q3⟩
          · exact .inl h
          · exact .inr ⟨h1, h2, q, io, q1, by omega, q3⟩
        · rw [e2]; exact ih.m (by have := ih.mono; omega)
      · have hn : (ss (k + 1)).n = (ss k).n + 1 := by rw [e1]; rfl
        have hm := ih.mono
        refine ⟨fun j a h => ?_, fun j a h => ?_, fun h => by omega, by omega⟩
        · have h' := ih.le j a h
          have := (hW k (by omega) j a h').2
          rw [e1]
          simp only [St.new]
          cases eb : Nat.beq j (ss k).m with
          | true => have := Nat.eq_of_beq_eq_true eb; omega
          | false => exact h'
        · rw [e1] at h
          simp only [St.new] at h
          cases eb : Nat.beq j (ss k).m with
          | true =>
            rw [eb] at h; simp at h; subst h
            have eb := Nat.eq_of_beq_eq_true eb
            refine .inr ⟨hm, fun h => by rw [eb]; exact ih.m h, k, _, by omega, by omega, hlk, c1, Nat.le_refl _, by rw [hn]; exact Nat.lt_succ_self _⟩
          | false =>
            rw [eb] at h
            rcases ih.back j a h with h | ⟨h1, h2, q, io, q1, q2, q3⟩
            · exact .inl h
            · exact .inr ⟨h1, h2, q, io, q1, by omega, q3⟩
end

end Go.Proofs.YtilbmpdeginabaaFw
