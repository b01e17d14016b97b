/- The row of FnExactPackText: for whatever input it returns true, and its input reads as it did. -/
import Derived.Test.YtmpfooibdekppaaGreatDoorRows
import Derived.Test.YtmpfooibdekppaaGreatDoorD5
import Derived.Test.YtmpfooibdekppaaGreatDoorOk
import Derived.Test.YtmpfooibdekppaaGreatDoorYb
import Derived.WalkKit
import Derived.ProofKit
import Derived.ChangeOld
import Derived.SizedLaws
import Derived.Test.YtmpfooibdekppaaGreatDoorCards
import Derived.Test.YtmpfooibdekppaaGreatDoorTie
import Derived.SevenTiedAt
import Derived.Handy
import Derived.Lay
import Derived.MakeChecks
namespace Go.Proofs.YtmpfooibdekppaaGreatDoor.fnExactPackText
open Go.ChangeShapes Go.WideShapes Go.ChangeAt Go.RowKit Go.Ev
set_option linter.unusedVariables false
theorem own : ownKnob Tryz.prog.godebug = none := by kernel_rfl
theorem trod_block {H : Type} {enc : TypeId × Value → H} {P : Program} {w : World} {base : Nat} {spare : Nat → Bool} {held : Bool} {t : TypeId} {v : Value} {d : DataW H} {ps : List MemPlace} (h : DataW.Trod enc P w base spare held t v d ps) : ∀ p ∈ ps, p.block < w.heap.size := by
  obtain ⟨n, hn⟩ := h
  exact DataW.trod_lt n _ _ _ hn
set_option maxRecDepth 100000 in
theorem lifted (os : Os) (started : os.Started) (H : Type) (enc : TypeId × Value → H) :
    ReturnsInHanded {} Tryz.checked os 3 .any (fun w args => (Rows.fnExactPackTextSpec.pre enc Tryz.prog Tryz.f3 [] false w args ∧ laidMetH Tryz.prog Rows.fnExactPackTextRow.laid w) ∧ sizedMet enc Tryz.prog Tryz.f3 (OpenSpec.ofChange Rows.fnExactPackTextSpec) false w args) (Rows.fnExactPackTextSpec.post enc Tryz.prog Tryz.f3 false true false false) := by
  refine returnsInHanded_of_change_and (C := Tryz.checked) (X := fun w _ => laidMetH Tryz.prog Rows.fnExactPackTextRow.laid w) (fun _ _ _ hh h => h.of_heap hh) own started (by kernel_rfl) Tryz.func3
    (ChangeSpec.witness_shaped (enc := enc) (C := Tryz.checked) (os := os) (X := fun w _ => laidMetH Tryz.prog Rows.fnExactPackTextRow.laid w) false (World.laidAll Tryz.prog os Rows.fnExactPackTextRow.laid) #[.agg #[.slice none 0 0, .int .i64 0, .int .i64 0, .int .i64 0, .slice none 0 0, .slice none 0 0, .slice none 0 0], .int .i64 0] 8 (World.laidAll_os _ _ _)
      (World.shaped_of_ZipB (by kernel_rfl) (by kernel_rfl)) (by kernel_rfl) (by kernel_rfl) (by kernel_rfl)
      (by rw [MakeChecks.laidMetH_plain _ _ _ (by kernel_rfl)]; exact laidMet_laidAll _ (by kernel_rfl) (by kernel_rfl))) ?_
  intro W base args ds gs before hval0 hW hcnd hsz0 _ _
  have hsz : (DataW.weightsEach Tryz.prog (Tryz.f3.params.toList ++ Rows.fnExactPackTextSpec.plain.varTypes Tryz.prog) (ds ++ gs)).all (· ≤ reachBytes) = true := hsz0
  have hval : ∀ (j : Nat) t v, Tryz.f3.params[j]? = some t → args[j]? = some v → Value.okWide Tryz.prog W .any base t v := hval0
  have hW' := hW
  obtain ⟨p, q, hA0, hV, rfl, hfz, hnd⟩ := hW
  have hA : DataW.TrodAll enc Tryz.prog W 0 (fun _ => true) true Tryz.f3.params.toList args.toList ds p := hA0
  rw [Tryz.params3] at hA hval hsz
  obtain ⟨v0, vs0, d0, ds0, p0, q0, hargs, rfl, rfl, h0, r0⟩ := trodAll_cons hA
  obtain ⟨v1, vs1, d1, ds1, p1, q1, rfl, rfl, rfl, h1, r1⟩ := trodAll_cons r0
  obtain ⟨rfl, rfl, rfl⟩ := trodAll_nil r1
  obtain rfl : args = #[v0, v1] := by cases args; simp_all
  obtain ⟨rfl, rfl⟩ := trodVars_none hV
  simp only [List.append_nil, show Rows.fnExactPackTextSpec.plain.varTypes Tryz.prog = [] from rfl] at hsz
  obtain ⟨w0, hsz⟩ := we_cons hsz
  obtain ⟨w1, hsz⟩ := we_cons hsz
  obtain ⟨e0, o0, s0, n0⟩ := arg_fr (m := 9) (shs := SClass.shp) (by kernel_rfl) (hval 0 27 v0 rfl rfl) h0 w0
  have y0 := s0 ⟨_, Tryz.underlying27⟩
  obtain ⟨x0, rfl, z0⟩ := SClass.of o0
  obtain ⟨e1, o1, s1, n1⟩ := arg_fr (m := 9) (shs := [.int .i64]) (by kernel_rfl) (hval 1 3 v1 rfl rfl) h1 w1
  obtain ⟨a1, rfl, y1⟩ := n1 (by rintro ⟨fs, h⟩; rw [Tryz.underlying3] at h; cases h)
  obtain ⟨x1, g1, z1⟩ := rInt_of _ o1
  cases g1
  refine (law_calls Go.Ev.YtmpfooibdekppaaGreatDoor.envOk Go.Ev.YtmpfooibdekppaaGreatDoor.extOk (Go.Ev.YtmpfooibdekppaaGreatDoor.c3 x0 x1 z0 z1) (show VRs _ _ [v0, v1] from (.cons y0 (.cons y1 .nil)))).mono fun e W' ⟨he, bel⟩ => ?_
  subst he
  exact ⟨_, rfl, _, _, _, [], _, [], hW', trodAll_mk1 (shut_bool Tryz.underlying4 _), (trodAll_cons_mk (Below.trod (by kernel_rfl) (by kernel_rfl) (of_decide_eq_true (by kernel_rfl)) h0 bel (trod_block h0)) (trodAll_cons_mk (Below.trod (by kernel_rfl) (by kernel_rfl) (of_decide_eq_true (by kernel_rfl)) h1 bel (trod_block h1)) trodAll_mk0)), rfl, bel.frame _, fun h => by cases h⟩
theorem over : Rows.fnExactPackTextRow.holds Tryz.pinned (OpenSpec.ofChange Rows.fnExactPackTextSpec) :=
  OpenClaim.holds_of_wide 3 Tryz.f3 rfl rfl rfl rfl rfl rfl rfl ⟨rfl, rfl, rfl, rfl, rfl⟩ rfl rfl rfl rfl rfl (by kernel_rfl) Tryz.func3 (by kernel_rfl)
    (of_decide_eq_true (by kernel_rfl)) (by unfold Func.isWrapper; first | (rw [if_pos (by decide +kernel)]; kernel_rfl) | (rw [if_neg (by decide +kernel)]; exact ⟨rfl, rfl⟩))
    (fun os started H enc _ => lifted os started H enc)
theorem proved : Rows.FnExactPackTextSaid := over
theorem card : Rows.FnExactPackTextCardSaid :=
  Claim7.holds_tied_plain_at .later [] [.data, .data, .data] true (true, "f0ecd2475185c362c4c80e22664121f8fb0ca5ed3a87aac139bd06352bc7c115") false over (fun _ h => by cases h) (by kernel_rfl) (fun _ h => by cases h) fnExactPackText_row_tie rfl ⟨rfl, rfl⟩ (by kernel_rfl) rfl
    (fun f fn hf hfn => by
      obtain rfl : f = 3 := Option.some.inj ((show Tryz.prog.funcNamed "loop.example/stowage/laws.FnExactPackText" = some 3 by kernel_rfl).symm.trans hf) |>.symm
      obtain rfl : fn = Tryz.f3 := (Option.some.inj (Tryz.func3.symm.trans hfn)).symm
      exact ⟨by kernel_rfl, fun j t ht => by
        rw [Tryz.params3] at ht
        have hm : t ∈ [27, 3] := by simpa using Array.mem_of_getElem? ht
        have hall : ([27, 3].all fun u => !Tryz.prog.wantsStandIn u) = true := by kernel_rfl
        exact (show Tryz.prog.wantsStandIn t = false by simpa using List.all_eq_true.1 hall t hm)⟩)
    (by kernel_rfl)
#print axioms card
end Go.Proofs.YtmpfooibdekppaaGreatDoor.fnExactPackText
namespace Go.Proofs.YtmpfooibdekppaaGreatDoor
/-- The row, under a short name, for the claim. -/
theorem fnExactPackTextCard_holds : Rows.FnExactPackTextCardSaid := fnExactPackText.card
end Go.Proofs.YtmpfooibdekppaaGreatDoor
