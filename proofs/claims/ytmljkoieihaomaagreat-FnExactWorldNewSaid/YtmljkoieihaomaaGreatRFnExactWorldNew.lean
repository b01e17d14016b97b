/- The row of FnExactWorldNew: for whatever input it returns true, and its input reads as it did. -/
import Derived.Test.YtmljkoieihaomaaGreatRows
import Derived.Test.YtmljkoieihaomaaGreatD4
import Derived.Test.YtmljkoieihaomaaGreatOk
import Derived.Test.YtmljkoieihaomaaGreatYb
import Derived.WalkKit
import Derived.ProofKit
import Derived.ChangeOld
import Derived.SizedLaws
namespace Go.Proofs.YtmljkoieihaomaaGreat.fnExactWorldNew
open Go.ChangeShapes Go.WideShapes Go.ChangeAt Go.RowKit Go.Ev
set_option linter.unusedVariables false
theorem own : ownKnob Tryz.prog.godebug = none := by kernel_rfl
theorem trod_block {H : Type} {enc : TypeId × Value → H} {P : Program} {w : World} {base : Nat} {spare : Nat → Bool} {held : Bool} {t : TypeId} {v : Value} {d : DataW H} {ps : List MemPlace} (h : DataW.Trod enc P w base spare held t v d ps) : ∀ p ∈ ps, p.block < w.heap.size := by
  obtain ⟨n, hn⟩ := h
  exact DataW.trod_lt n _ _ _ hn
set_option maxRecDepth 100000 in
theorem lifted (os : Os) (started : os.Started) (H : Type) (enc : TypeId × Value → H) :
    ReturnsInHanded {} Tryz.checked os 3 .any (Rows.fnExactWorldNewSpec.pre6 enc Tryz.prog Tryz.f3 Rows.fnExactWorldNewRow.domain false) (Rows.fnExactWorldNewSpec.post enc Tryz.prog Tryz.f3 false true false false) := by
  refine returnsInHanded_of_change_sized (C := Tryz.checked) own started (by kernel_rfl) Tryz.func3
    (ChangeSpec.witness6 (enc := enc) (C := Tryz.checked) false ⟨#[], #[.slice none 0 0], []⟩ 8 (by kernel_rfl) (by kernel_rfl) (by kernel_rfl) (by kernel_rfl)) ?_
  intro W base args ds gs before hval0 hW hcnd hsz0 _
  have hsz : (DataW.weightsEach Tryz.prog (Tryz.f3.params.toList ++ Rows.fnExactWorldNewSpec.plain.varTypes Tryz.prog) (ds ++ gs)).all (· ≤ reachBytes) = true := hsz0
  have hval : ∀ (j : Nat) t v, Tryz.f3.params[j]? = some t → args[j]? = some v → Value.okWide Tryz.prog W .any base t v := hval0
  have hW' := hW
  obtain ⟨p, q, hA0, hV, rfl, hfz, hnd⟩ := hW
  have hA : DataW.TrodAll enc Tryz.prog W 0 (fun _ => true) true Tryz.f3.params.toList args.toList ds p := hA0
  rw [Tryz.params3] at hA hval hsz
  obtain ⟨v0, vs0, d0, ds0, p0, q0, hargs, rfl, rfl, h0, r0⟩ := trodAll_cons hA
  obtain ⟨rfl, rfl, rfl⟩ := trodAll_nil r0
  obtain rfl : args = #[v0] := by cases args; simp_all
  obtain ⟨rfl, rfl⟩ := trodVars_none hV
  simp only [List.append_nil, show Rows.fnExactWorldNewSpec.plain.varTypes Tryz.prog = [] from rfl] at hsz
  obtain ⟨w0, hsz⟩ := we_cons hsz
  obtain ⟨e0, o0, s0, n0⟩ := arg_fr (m := 9) (shs := [.list SLoader.shp]) (by kernel_rfl) (hval 0 22 v0 rfl rfl) h0 w0
  obtain ⟨a0, rfl, y0⟩ := n0 (by rintro ⟨fs, h⟩; rw [Tryz.underlying22] at h; cases h)
  obtain ⟨x0, g0, z0⟩ := rList_of (fun d h => SLoader.of h) _ o0
  cases g0
  refine (law_calls Go.Ev.YtmljkoieihaomaaGreat.envOk Go.Ev.YtmljkoieihaomaaGreat.extOk (Go.Ev.YtmljkoieihaomaaGreat.c3 x0 z0) (show VRs _ _ [v0] from (.cons y0 .nil))).mono fun e W' ⟨he, bel⟩ => ?_
  subst he
  exact ⟨_, rfl, _, _, _, [], _, [], hW', trodAll_mk1 (shut_bool Tryz.underlying4 _), (trodAll_cons_mk (Below.trod (by kernel_rfl) (by kernel_rfl) (of_decide_eq_true (by kernel_rfl)) h0 bel (trod_block h0)) trodAll_mk0), rfl, bel.frame _, fun h => by cases h⟩
theorem over : Rows.fnExactWorldNewRow.holds Tryz.pinned (OpenSpec.ofChange Rows.fnExactWorldNewSpec) :=
  OpenClaim.holds_of_wide 3 Tryz.f3 rfl rfl rfl rfl rfl rfl rfl ⟨rfl, rfl, rfl, rfl, rfl⟩ rfl rfl rfl rfl rfl (by kernel_rfl) Tryz.func3 (by kernel_rfl)
    (of_decide_eq_true (by kernel_rfl)) (by unfold Func.isWrapper; first | (rw [if_pos (by decide +kernel)]; kernel_rfl) | (rw [if_neg (by decide +kernel)]; exact ⟨rfl, rfl⟩))
    (fun os started H enc _ => lifted os started H enc)
theorem proved : Rows.FnExactWorldNewSaid := over
#print axioms proved
end Go.Proofs.YtmljkoieihaomaaGreat.fnExactWorldNew
namespace Go.Proofs.YtmljkoieihaomaaGreat
/-- The row, under a short name, for the claim. -/
theorem fnExactWorldNew_holds : Rows.FnExactWorldNewSaid := fnExactWorldNew.proved
end Go.Proofs.YtmljkoieihaomaaGreat
