/- The row of FnExactClassCheck: for whatever input it returns true, and its input reads as it did. -/
import Derived.Test.YtmljkoieihaomaaGreatRows
import Derived.Test.YtmljkoieihaomaaGreatD5
import Derived.Test.YtmljkoieihaomaaGreatOk
import Derived.Test.YtmljkoieihaomaaGreatYb
import Derived.WalkKit
import Derived.ProofKit
import Derived.ChangeOld
import Derived.SizedLaws
namespace Go.Proofs.YtmljkoieihaomaaGreat.fnExactClassCheck
open Go.ChangeShapes Go.WideShapes Go.ChangeAt Go.RowKit Go.Ev
set_option linter.unusedVariables false
theorem own : ownKnob Tryz.prog.godebug = none := by kernel_rfl
theorem trod_block {H : Type} {enc : TypeId × Value → H} {P : Program} {w : World} {base : Nat} {spare : Nat → Bool} {held : Bool} {t : TypeId} {v : Value} {d : DataW H} {ps : List MemPlace} (h : DataW.Trod enc P w base spare held t v d ps) : ∀ p ∈ ps, p.block < w.heap.size := by
  obtain ⟨n, hn⟩ := h
  exact DataW.trod_lt n _ _ _ hn
set_option maxRecDepth 100000 in
theorem lifted (os : Os) (started : os.Started) (H : Type) (enc : TypeId × Value → H) :
    ReturnsInHanded {} Tryz.checked os 4 .any (Rows.fnExactClassCheckSpec.pre6 enc Tryz.prog Tryz.f4 Rows.fnExactClassCheckRow.domain false) (Rows.fnExactClassCheckSpec.post enc Tryz.prog Tryz.f4 false true false false) := by
  refine returnsInHanded_of_change_sized (C := Tryz.checked) own started (by kernel_rfl) Tryz.func4
    (ChangeSpec.witness6 (enc := enc) (C := Tryz.checked) false ⟨#[], #[.agg #[.slice none 0 0, .int .i64 0, .int .i64 0, .int .i64 0, .slice none 0 0, .slice none 0 0, .slice none 0 0]], []⟩ 8 (by kernel_rfl) (by kernel_rfl) (by kernel_rfl) (by kernel_rfl)) ?_
  intro W base args ds gs before hval0 hW hcnd hsz0 _
  have hsz : (DataW.weightsEach Tryz.prog (Tryz.f4.params.toList ++ Rows.fnExactClassCheckSpec.plain.varTypes Tryz.prog) (ds ++ gs)).all (· ≤ reachBytes) = true := hsz0
  have hval : ∀ (j : Nat) t v, Tryz.f4.params[j]? = some t → args[j]? = some v → Value.okWide Tryz.prog W .any base t v := hval0
  have hW' := hW
  obtain ⟨p, q, hA0, hV, rfl, hfz, hnd⟩ := hW
  have hA : DataW.TrodAll enc Tryz.prog W 0 (fun _ => true) true Tryz.f4.params.toList args.toList ds p := hA0
  rw [Tryz.params4] at hA hval hsz
  obtain ⟨v0, vs0, d0, ds0, p0, q0, hargs, rfl, rfl, h0, r0⟩ := trodAll_cons hA
  obtain ⟨rfl, rfl, rfl⟩ := trodAll_nil r0
  obtain rfl : args = #[v0] := by cases args; simp_all
  obtain ⟨rfl, rfl⟩ := trodVars_none hV
  simp only [List.append_nil, show Rows.fnExactClassCheckSpec.plain.varTypes Tryz.prog = [] from rfl] at hsz
  obtain ⟨w0, hsz⟩ := we_cons hsz
  obtain ⟨e0, o0, s0, n0⟩ := arg_fr (m := 9) (shs := SClass.shp) (by kernel_rfl) (hval 0 42 v0 rfl rfl) h0 w0
  have y0 := s0 ⟨_, Tryz.underlying42⟩
  obtain ⟨x0, rfl, z0⟩ := SClass.of o0
  refine (law_calls Go.Ev.YtmljkoieihaomaaGreat.envOk Go.Ev.YtmljkoieihaomaaGreat.extOk (Go.Ev.YtmljkoieihaomaaGreat.c4 x0 z0) (show VRs _ _ [v0] from (.cons y0 .nil))).mono fun e W' ⟨he, bel⟩ => ?_
  subst he
  exact ⟨_, rfl, _, _, _, [], _, [], hW', trodAll_mk1 (shut_bool Tryz.underlying4 _), (trodAll_cons_mk (Below.trod (by kernel_rfl) (by kernel_rfl) (of_decide_eq_true (by kernel_rfl)) h0 bel (trod_block h0)) trodAll_mk0), rfl, bel.frame _, fun h => by cases h⟩
theorem over : Rows.fnExactClassCheckRow.holds Tryz.pinned (OpenSpec.ofChange Rows.fnExactClassCheckSpec) :=
  OpenClaim.holds_of_wide 4 Tryz.f4 rfl rfl rfl rfl rfl rfl rfl ⟨rfl, rfl, rfl, rfl, rfl⟩ rfl rfl rfl rfl rfl (by kernel_rfl) Tryz.func4 (by kernel_rfl)
    (of_decide_eq_true (by kernel_rfl)) (by unfold Func.isWrapper; first | (rw [if_pos (by decide +kernel)]; kernel_rfl) | (rw [if_neg (by decide +kernel)]; exact ⟨rfl, rfl⟩))
    (fun os started H enc _ => lifted os started H enc)
theorem proved : Rows.FnExactClassCheckSaid := over
#print axioms proved
end Go.Proofs.YtmljkoieihaomaaGreat.fnExactClassCheck
namespace Go.Proofs.YtmljkoieihaomaaGreat
/-- The row, under a short name, for the claim. -/
theorem fnExactClassCheck_holds : Rows.FnExactClassCheckSaid := fnExactClassCheck.proved
end Go.Proofs.YtmljkoieihaomaaGreat
