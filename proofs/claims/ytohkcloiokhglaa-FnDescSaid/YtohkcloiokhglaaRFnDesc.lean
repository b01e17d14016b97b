/- The row of FnDesc: for whatever input it returns true, and its input reads as it did. -/
import Derived.Test.YtohkcloiokhglaaRows
import Derived.Test.YtohkcloiokhglaaC9A0
import Derived.Test.YtohkcloiokhglaaOk
import Derived.Test.YtohkcloiokhglaaYb
import Derived.WalkKit
import Derived.ProofKit
import Derived.ChangeOld
import Derived.SizedLaws
namespace Go.Proofs.Ytohkcloiokhglaa.fnDesc
open Go.ChangeShapes Go.WideShapes Go.ChangeAt Go.RowKit Go.Ev
set_option linter.unusedVariables false
theorem own : ownKnob Try.prog.godebug = none := by kernel_rfl
theorem trod_block {H : Type} {enc : TypeId × Value → H} {P : Program} {w : World} {base : Nat} {spare : Nat → Bool} {held : Bool} {t : TypeId} {v : Value} {d : DataW H} {ps : List MemPlace} (h : DataW.Trod enc P w base spare held t v d ps) : ∀ p ∈ ps, p.block < w.heap.size := by
  obtain ⟨n, hn⟩ := h
  exact DataW.trod_lt n _ _ _ hn
set_option maxRecDepth 100000 in
theorem lifted (os : Os) (started : os.Started) (H : Type) (enc : TypeId × Value → H) :
    ReturnsInHanded {} Try.checked os 11 .any (Rows.fnDescSpec.pre6 enc Try.prog Try.f11 Rows.fnDescRow.domain false) (Rows.fnDescSpec.post enc Try.prog Try.f11 false true false false) := by
  refine returnsInHanded_of_change_sized (C := Try.checked) own started (by kernel_rfl) Try.func11
    (ChangeSpec.witness6 (enc := enc) (C := Try.checked) false ⟨#[], #[.slice none 0 0], []⟩ 8 (by kernel_rfl) (by kernel_rfl) (by kernel_rfl) (by kernel_rfl)) ?_
  intro W base args ds gs before hval0 hW hcnd hsz0 _
  have hsz : (DataW.weightsEach Try.prog (Try.f11.params.toList ++ Rows.fnDescSpec.plain.varTypes Try.prog) (ds ++ gs)).all (· ≤ reachBytes) = true := hsz0
  have hval : ∀ (j : Nat) t v, Try.f11.params[j]? = some t → args[j]? = some v → Value.okWide Try.prog W .any base t v := hval0
  have hW' := hW
  obtain ⟨p, q, hA0, hV, rfl, hfz, hnd⟩ := hW
  have hA : DataW.TrodAll enc Try.prog W 0 (fun _ => true) true Try.f11.params.toList args.toList ds p := hA0
  rw [Try.params11] at hA hval hsz
  obtain ⟨v0, vs0, d0, ds0, p0, q0, hargs, rfl, rfl, h0, r0⟩ := trodAll_cons hA
  obtain ⟨rfl, rfl, rfl⟩ := trodAll_nil r0
  obtain rfl : args = #[v0] := by cases args; simp_all
  obtain ⟨rfl, rfl⟩ := trodVars_none hV
  simp only [List.append_nil, show Rows.fnDescSpec.plain.varTypes Try.prog = [] from rfl] at hsz
  obtain ⟨w0, hsz⟩ := we_cons hsz
  obtain ⟨e0, o0, s0, n0⟩ := arg_fr (m := 9) (shs := [.list [.int .u8]]) (by kernel_rfl) (hval 0 45 v0 rfl rfl) h0 w0
  obtain ⟨a0, rfl, y0⟩ := n0 (by rintro ⟨fs, h⟩; rw [Try.underlying45] at h; cases h)
  obtain ⟨x0, g0, z0⟩ := rList_of rByte_of _ o0
  cases g0
  refine (law_calls Go.Ev.Ytohkcloiokhglaa.envOk Go.Ev.Ytohkcloiokhglaa.extOk (Go.Ev.Ytohkcloiokhglaa.c11 x0 z0) (show VRs _ _ [v0] from (.cons y0 .nil))).mono fun e W' ⟨he, bel⟩ => ?_
  subst he
  exact ⟨_, rfl, _, _, _, [], _, [], hW', trodAll_mk1 (shut_bool Try.underlying4 _), (trodAll_cons_mk (Below.trod (by kernel_rfl) (by kernel_rfl) (of_decide_eq_true (by kernel_rfl)) h0 bel (trod_block h0)) trodAll_mk0), rfl, bel.frame _, fun h => by cases h⟩
theorem over : Rows.fnDescRow.holds Try.pinned (OpenSpec.ofChange Rows.fnDescSpec) :=
  OpenClaim.holds_of_wide 11 Try.f11 rfl rfl rfl rfl rfl rfl rfl ⟨rfl, rfl, rfl, rfl, rfl⟩ rfl rfl rfl rfl rfl (by kernel_rfl) Try.func11 (by kernel_rfl)
    (of_decide_eq_true (by kernel_rfl)) (by unfold Func.isWrapper; first | (rw [if_pos (by decide +kernel)]; kernel_rfl) | (rw [if_neg (by decide +kernel)]; exact ⟨rfl, rfl⟩))
    (fun os started H enc _ => lifted os started H enc)
theorem proved : Rows.FnDescSaid := over
#print axioms proved
end Go.Proofs.Ytohkcloiokhglaa.fnDesc
namespace Go.Proofs.Ytohkcloiokhglaa
/-- The row, under a short name, for the claim. -/
theorem fnDesc_holds : Rows.FnDescSaid := fnDesc.proved
end Go.Proofs.Ytohkcloiokhglaa
