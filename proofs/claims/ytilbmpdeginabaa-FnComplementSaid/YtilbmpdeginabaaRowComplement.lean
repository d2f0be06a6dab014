/- The row of FnComplement: from its run on trees to the statement. Conditions: the run itself, as a hypothesis. -/
import Derived.Test.YtilbmpdeginabaaRows
import Derived.Test.YtilbmpdeginabaaEq
namespace Go.Proofs.Ytilbmpdeginabaa.fnComplement
set_option maxRecDepth 20000
open Go Go.ChangeShapes Go.WideShapes Go.ChangeAt Go.RowKit Go.Proofs.YtilbmpdeginabaaFw

def Law : Prop := ∀ xs, hasArgs [(false, [.sl false [.int .u8]])] xs → ∃ n', L.call 6 xs 1 = some (.bool true, n')

theorem own : ownKnob Try.prog.godebug = none := by kernel_rfl
theorem laidOut : laidOutB Try.prog = true := by kernel_rfl

theorem lifted (law : Law) (os : Os) (started : os.Started) (H : Type) (enc : TypeId × Value → H) :
    ReturnsInHanded {} Try.checked os 6 .any (Rows.fnComplementSpec.pre6 enc Try.prog Try.f6 Rows.fnComplementRow.domain false) (Rows.fnComplementSpec.post enc Try.prog Try.f6 false true false false) := by
  refine returnsInHanded_of_change_sized (C := Try.checked) own started (by kernel_rfl) Try.func6
    (ChangeSpec.witness6 (enc := enc) (C := Try.checked) false ⟨#[], #[.slice none 0 0], []⟩ 8 (by kernel_rfl) (by kernel_rfl) (by kernel_rfl) (by kernel_rfl)) ?_
  intro W base args ds gs before hval0 hW hcnd hsz0 _
  have hW' := hW
  obtain ⟨p, q, hA0, hV, rfl, hfz, hnd⟩ := hW
  obtain ⟨rfl, rfl⟩ := trodVars_none hV
  have hA : DataW.TrodAll enc Try.prog W 0 (fun _ => true) true Try.f6.params.toList args.toList ds p := hA0
  have hval : ∀ (j : Nat) (t : TypeId) (v : Value), Try.f6.params.toList[j]? = some t → args.toList[j]? = some v → Value.okWide Try.prog W .any base t v :=
    fun j t v h1 h2 => hval0 j t v (by simpa using h1) (by simpa using h2)
  rw [Try.params6] at hA hval
  obtain ⟨d0, rfl⟩ := len1 (args_len hA)
  obtain ⟨xs, ha, hh, ht⟩ := args_open (tys := [(false, [.sl false [.int .u8]])]) (by kernel_rfl) hval hA
  obtain ⟨n', hr⟩ := law xs hh
  refine (law_calls hint (by kernel_rfl) hr ht ha).mono fun e W' ⟨he, bel⟩ => ?_
  subst he
  exact ⟨_, rfl, _, _, _, [], _, [], hW', trodAll_mk1 (shut_bool Try.underlying4 _), args_back laidOut bel (by kernel_rfl) hA, rfl, bel.frame _, fun h => by cases h⟩

theorem over (law : Law) : Rows.fnComplementRow.holds Try.pinned (OpenSpec.ofChange Rows.fnComplementSpec) :=
  OpenClaim.holds_of_wide 6 Try.f6 rfl rfl rfl rfl rfl rfl rfl ⟨rfl, rfl, rfl, rfl, rfl⟩ rfl rfl rfl rfl rfl (by kernel_rfl) Try.func6 (by kernel_rfl)
    (of_decide_eq_true (by kernel_rfl)) (by unfold Func.isWrapper; first | (rw [if_pos (by decide +kernel)]; kernel_rfl) | (rw [if_neg (by decide +kernel)]; exact ⟨rfl, rfl⟩))
    (fun os started H enc _ => lifted law os started H enc)

end Go.Proofs.Ytilbmpdeginabaa.fnComplement
