/- The law FnClique answers true at every input. Conditions: those of each theorem. -/
import Derived.Test.YtpjddmfcikelcaaCts
import Derived.Test.YtpjddmfcikelcaaRowClique
set_option linter.unusedSimpArgs false
set_option linter.unusedVariables false
namespace Go.Proofs.YtpjddmfcikelcaaFw
open Go

theorem law_FnClique : ∀ xs, hasArgs [(false, [.sl false [.int .u8]])] xs → ∃ n', L.call i_laws_FnClique xs 1 = some (.bool true, n') := by
  intro xs h
  obtain ⟨v0, rfl, e0⟩ := args1 h
  obtain ⟨l0, b0⟩ := by_in e0
  suffices hs : Ok (L.call i_laws_FnClique [v0] 1) fun p => p.1 = .bool true by
    obtain ⟨⟨r, n'⟩, e, hr⟩ := hs
    exact ⟨n', by rw [← show r = .bool true from hr]; exact e⟩
  rw [call_laws_FnClique]
  simp only [SlOf.len b0, bind_some', aBin_gtr]
  refine Ok.cnd (fun _ => ⟨_, rfl, rfl⟩) fun hl => ?_
  refine Ok.call (MakeGraph_spec b0 (by omega) _) (plain1 b0.plain) fun x n1 p1 => ?_
  obtain ⟨_, g, hg, hx, _⟩ := p1
  dsimp only at hx
  obtain ⟨h12, hrows⟩ := graphM_rows hg
  have hrl : ∀ r ∈ g, r.length ≤ 1048576 := fun r hr => by
    obtain ⟨i, hi, rfl⟩ := List.mem_iff_getElem.1 hr
    obtain ⟨r, h1, h2⟩ := hrows i hi
    rw [List.getElem?_eq_getElem hi] at h1; cases h1; omega
  have hgl : g.length ≤ 1048576 := by omega
  refine Ok.call (MaxClique_impl0 hx hgl hrl _) (plain1 hx.plain) fun y n2 p2 => ?_
  obtain ⟨_, hy, _⟩ := p2
  dsimp only at hy
  refine Ok.call (GreedyColors_impl_ok0 hx hgl hrl _) (plain1 hx.plain) fun z n3 p3 => ?_
  obtain ⟨_, hz, _⟩ := p3
  dsimp only at hz
  have hcol : greedyM g = colM g g.length := by simp [greedyM, hg]
  rw [hcol] at hz
  have hcl := colM_length g g.length
  have hcb := colM_bound g g.length
  simp only [SlOf.len hz, bind_some']
  have hml : (maxM g).length ≤ 12 := clique_len (maxM_clique hg)
  generalize (((st0 1).setN n1).setN n2).setN n3 = E
  refine Ok.bind (P := fun r => ∃ most : Nat, r = (.exit 0, [.undef, x, y, z, .int .i64 (most : Int)], E) ∧ ∀ c ∈ colM g g.length, c + 1 ≤ (most : Int))
    (Ok.loop (σ := Nat) (Lp := fun i s => L.loop [3, 4, 5, 6, 18, 19, 20] [2, 3, 4, 5, 6] b_laws_FnClique_1 [x, y, z, .int .i64 (s : Int), z, .int .i64 ((colM g g.length).length : Int), .int .i64 i] E) (I := fun i s => ∀ j (hj : j < (colM g g.length).length), j < i → (colM g g.length)[j] + 1 ≤ (s : Int)) (colM g g.length).length ?_ ?_ (colM g g.length).length 0 0 (by omega) (fun j _ hj => by omega)) ?_
  · intro most hI
    rw [loop_laws_FnClique_1]
    simp only [bind_some', aBin_lss, cnd_dec, Int.lt_irrefl, if_false]
    refine ⟨_, rfl, most, rfl, fun c hc => ?_⟩
    obtain ⟨j, hj, rfl⟩ := List.mem_iff_getElem.1 hc
    exact hI j hj hj
  · intro i most hi hI ih
    obtain ⟨p, q1, q2⟩ := IS.get (st := E) hz (List.getElem?_eq_getElem hi) .i64
    have hb := hcb _ (List.getElem_mem hi)
    rw [loop_laws_FnClique_1]
    simp only [bind_some', aBin_lss, aBin_add, aBin_gtr, q1, q2]
    refine Ok.cnd (fun _ => ?_) fun hf => absurd hf (by omega)
    rw [wrap_i (x := (colM g g.length)[i] + 1) (by omega), wrap_i (x := (i : Int) + 1) (by omega)]
    refine Ok.cnd (fun hgt => ?_) fun hgt => ?_
    · rw [show (colM g g.length)[i] + 1 = (((colM g g.length)[i] + 1).toNat : Int) by omega]
      refine ih _ fun j hj hji => ?_
      by_cases e : j = i
      · subst e; omega
      · have := hI j hj (by omega); omega
    · refine ih most fun j hj hji => ?_
      by_cases e : j = i
      · subst e; omega
      · exact hI j hj (by omega)
  · rintro _ ⟨most, rfl, hmost⟩
    have hcc := clique_colors (maxM_PC hg) hmost
    have hexl : extM g (maxM g) = [] := by simp [extM, maxM_clique hg, maxM_ext hg]
    rw [k_laws_FnClique_1_0, call_same (plain2 hx.plain hy.plain) (IsClique_impl_call hx hy hgl hrl (by omega) _)]
    simp only [bind_some', maxM_clique hg]
    refine Ok.cndb (fun _ => ?_) fun hf => Bool.noConfusion hf
    refine Ok.call (ExtendsClique_impl_ok0 hx hy hgl hrl (by omega) _) (plain2 hx.plain hy.plain) fun w n4 p4 => ?_
    obtain ⟨_, hw, _⟩ := p4
    dsimp only at hw
    rw [hexl] at hw
    simp only [SlOf.len hw, SlOf.len hy, SlOf.len hz, SlOf.len hx, bind_some', aBin_eql, aBin_leq, hcl, List.length_nil]
    refine Ok.cnd (fun _ => ?_) fun hf => absurd (by first | trivial | rfl | omega) hf
    refine Ok.cnd (fun _ => ?_) fun hf => absurd hf (by omega)
    refine Ok.cnd (fun _ => ?_) fun hf => absurd (by first | trivial | rfl | omega) hf
    refine Ok.gives (CountMaximalCliques_impl0 hx hgl hrl) (plain1 hx.plain) fun n5 hn5 => ?_
    have hcp := count_pos hg
    simp only [bind_some', aBin_geq]
    refine Ok.cnd (fun _ => ?_) fun hf => absurd hf (by omega)
    have hnil := maxM_nil hg
    have hb : decide ((g.length : Int) = 0) = decide (((maxM g).length : Int) = 0) := by
      rw [decide_eq_decide]; omega
    simp only [aBinb_eql, bind_some', hb, decide_true]
    exact ⟨_, rfl, rfl⟩

end Go.Proofs.YtpjddmfcikelcaaFw
namespace Go.Proofs.Ytpjddmfcikelcaa
theorem FnClique_holds : Rows.FnCliqueSaid := fnClique.over YtpjddmfcikelcaaFw.law_FnClique
end Go.Proofs.Ytpjddmfcikelcaa
