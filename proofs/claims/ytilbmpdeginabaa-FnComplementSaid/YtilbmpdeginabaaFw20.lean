/- A law's arguments: what they are as trees, and that they read as before. Conditions: none beside each theorem's own. -/
import Derived.Test.YtilbmpdeginabaaFw19
import Derived.WalkKit
import Derived.ProofKit
import Derived.OpenShut
import Derived.ShutString
import Derived.ChangeOld
import Derived.SizedLaws
namespace Go.Proofs.YtilbmpdeginabaaFw
open Go Go.ChangeShapes Go.WideShapes Go.ChangeAt Go.RowKit

/-- arguments of these kinds -/
def hasArgs : List (Bool × List CT) → List AV → Prop
  | [], as => as = []
  | t :: ts, as => ∃ a r, as = a :: r ∧ elHas t.1 t.2 a ∧ hasArgs ts r

def argTys (P : Program) : List TypeId → Option (List (Bool × List CT))
  | [] => some []
  | t :: ts => (argTy P t).bind fun x => (argTys P ts).bind fun xs => some (x :: xs)

section
variable {H : Type} {enc : TypeId × Value → H} {P : Program} {W : World}

theorem args_open {spare : Nat → Bool} {held : Bool} {r : Reach} {b0 : Nat} {W0 : World} : ∀ {ts : List TypeId} {vs : List Value} {ds : List (DataW H)} {p : List MemPlace} {tys : List (Bool × List CT)}, argTys P ts = some tys →
    (∀ (j : Nat) (t : TypeId) (v : Value), ts[j]? = some t → vs[j]? = some v → Value.okWide P W0 r b0 t v) → DataW.TrodAll enc P W 0 spare held ts vs ds p →
    ∃ as, VRels (inCx W) W as vs ∧ hasArgs tys as ∧ treeL as = true
  | [], [], [], p, tys, h, _, _ => by simp [argTys] at h; subst h; exact ⟨[], by simp [VRels], by simp [hasArgs], rfl⟩
  | t :: ts, v :: vs, d :: ds, p, tys, h, hv, hA => by
    simp only [argTys] at h
    obtain ⟨x, h1, h⟩ := bind_some h
    obtain ⟨xs, h2, h⟩ := bind_some h
    simp at h; subst h
    obtain ⟨p1, q1, a1, a2, rfl⟩ := hA
    obtain ⟨agg, us⟩ := x
    obtain ⟨a, b1, b2, b3⟩ := arg_open h1 (hv 0 t v rfl rfl) a1
    obtain ⟨as, c1, c2, c3⟩ := args_open h2 (fun j t v ht hv' => hv (j + 1) t v ht hv') a2
    exact ⟨a :: as, by simp only [VRels]; exact ⟨v, vs, rfl, b1, c1⟩, by simp only [hasArgs]; exact ⟨a, as, rfl, b2, c2⟩, by simp [treeL, b3, c3]⟩
  | [], _ :: _, _, _, _, _, _, hA => by simp [DataW.TrodAll] at hA
  | [], [], _ :: _, _, _, _, _, hA => by simp [DataW.TrodAll] at hA
  | _ :: _, [], _, _, _, _, _, hA => by simp [DataW.TrodAll] at hA
  | _ :: _, _ :: _, [], _, _, _, _, hA => by simp [DataW.TrodAll] at hA

theorem args_back (hl : laidOutB P = true) {W' : World} (hb : Below W.heap.size W W') : ∀ {ts : List TypeId} {vs : List Value} {ds : List (DataW H)} {p : List MemPlace}, (ts.all fun t => P.readableRec t && Nat.blt t P.types.size) = true →
    DataW.TrodAll enc P W 0 (fun _ => true) true ts vs ds p → DataW.TrodAll enc P W' 0 (fun b => decide (b < W.heap.size)) true ts vs ds p
  | [], [], [], p, _, hA => hA
  | t :: ts, v :: vs, d :: ds, p, h, hA => by
    simp only [List.all_cons, Bool.and_eq_true] at h
    obtain ⟨p1, q1, a1, a2, rfl⟩ := hA
    exact ⟨p1, q1, Below.trod hl h.1.1 (Nat.le_of_ble_eq_true h.1.2) a1 hb (by obtain ⟨m, hm⟩ := a1; exact DataW.trod_lt m _ _ _ hm), args_back hl hb h.2 a2, rfl⟩
  | [], _ :: _, _, _, _, hA => by simp [DataW.TrodAll] at hA
  | [], [], _ :: _, _, _, hA => by simp [DataW.TrodAll] at hA
  | _ :: _, [], _, _, _, hA => by simp [DataW.TrodAll] at hA
  | _ :: _, _ :: _, [], _, _, hA => by simp [DataW.TrodAll] at hA

theorem args_len {spare : Nat → Bool} {held : Bool} : ∀ {ts : List TypeId} {vs : List Value} {ds : List (DataW H)} {p : List MemPlace}, DataW.TrodAll enc P W 0 spare held ts vs ds p → ds.length = ts.length
  | [], [], [], p, _ => rfl
  | t :: ts, v :: vs, d :: ds, p, hA => by
    obtain ⟨p1, q1, a1, a2, rfl⟩ := hA
    simp [args_len a2]
  | [], _ :: _, _, _, hA => by simp [DataW.TrodAll] at hA
  | [], [], _ :: _, _, hA => by simp [DataW.TrodAll] at hA
  | _ :: _, [], _, _, hA => by simp [DataW.TrodAll] at hA
  | _ :: _, _ :: _, [], _, hA => by simp [DataW.TrodAll] at hA
end

theorem len1 {α : Type} {l : List α} (h : l.length = 1) : ∃ a, l = [a] := List.length_eq_one_iff.1 h
theorem len2 {α : Type} {l : List α} (h : l.length = 2) : ∃ a b, l = [a, b] := by
  match l, h with
  | [a, b], _ => exact ⟨a, b, rfl⟩
theorem len3 {α : Type} {l : List α} (h : l.length = 3) : ∃ a b c, l = [a, b, c] := by
  match l, h with
  | [a, b, c], _ => exact ⟨a, b, c, rfl⟩
theorem len4 {α : Type} {l : List α} (h : l.length = 4) : ∃ a b c d, l = [a, b, c, d] := by
  match l, h with
  | [a, b, c, d], _ => exact ⟨a, b, c, d, rfl⟩
theorem len5 {α : Type} {l : List α} (h : l.length = 5) : ∃ a b c d e, l = [a, b, c, d, e] := by
  match l, h with
  | [a, b, c, d, e], _ => exact ⟨a, b, c, d, e, rfl⟩
theorem len6 {α : Type} {l : List α} (h : l.length = 6) : ∃ a b c d e f, l = [a, b, c, d, e, f] := by
  match l, h with
  | [a, b, c, d, e, f], _ => exact ⟨a, b, c, d, e, f, rfl⟩
theorem len7 {α : Type} {l : List α} (h : l.length = 7) : ∃ a b c d e f g, l = [a, b, c, d, e, f, g] := by
  match l, h with
  | [a, b, c, d, e, f, g], _ => exact ⟨a, b, c, d, e, f, g, rfl⟩
theorem len8 {α : Type} {l : List α} (h : l.length = 8) : ∃ a b c d e f g i, l = [a, b, c, d, e, f, g, i] := by
  match l, h with
  | [a, b, c, d, e, f, g, i], _ => exact ⟨a, b, c, d, e, f, g, i, rfl⟩

end Go.Proofs.YtilbmpdeginabaaFw
