/- The program's law FnScoresAny holds: for every input the call returns true, and each argument reads afterwards as_ before. No condition. -/
import Derived.Below
import Derived.ChangeOld
import Derived.OpenShut
import Derived.ProofKit
import Derived.ShutString
import Derived.SizedLaws
import Derived.Test.YthbhnjcnbnlidaaRows
import Derived.WalkKit
import Derived.Test.YthbhnjcnbnlidaaBFnScoresAny2
namespace Go.Proofs.Ythbhnjcnbnlidaa.fnScoresAny
open Go Go.ChangeShapes Go.WideShapes Go.ChangeAt Go.RowKit Go.Proofs.Ythbhnjcnbnlidaa.Am
set_option linter.unusedVariables false
set_option maxRecDepth 100000
theorem own : ownKnob Try.prog.godebug = none := by kernel_rfl
theorem laidOut : laidOutB Try.prog = true := by kernel_rfl
theorem lifted (os : Os) (started : os.Started) (H : Type) (enc : TypeId × Value → H) :
    ReturnsInHanded {} Try.checked os 7 .any (Rows.fnScoresAnySpec.pre6 enc Try.prog Try.f7 Rows.fnScoresAnyRow.domain false) (Rows.fnScoresAnySpec.post enc Try.prog Try.f7 false true false false) := by
  refine returnsInHanded_of_change_sized (C := Try.checked) own started (by kernel_rfl) Try.func7
    (ChangeSpec.witness6 (enc := enc) (C := Try.checked) false ⟨#[], #[.slice none 0 0], []⟩ 8 (by kernel_rfl) (by kernel_rfl) (by kernel_rfl) (by kernel_rfl)) ?_
  intro W base args ds gs before hval0 hW hcnd hsz0 _
  have hsz : (DataW.weightsEach Try.prog (Try.f7.params.toList ++ Rows.fnScoresAnySpec.plain.varTypes Try.prog) (ds ++ gs)).all (· ≤ reachBytes) = true := hsz0
  have hval : ∀ (j : Nat) t v, Try.f7.params[j]? = some t → args[j]? = some v → Value.okWide Try.prog W .any base t v := hval0
  have hW' := hW
  obtain ⟨p, q, hA0, hV, rfl, hfz, hnd⟩ := hW
  have hA : DataW.TrodAll enc Try.prog W 0 (fun _ => true) true Try.f7.params.toList args.toList ds p := hA0
  rw [Try.params7] at hA hval hsz
  obtain ⟨v0, vs0, d0, ds0, p0, q0, hargs, rfl, rfl, h0, r0⟩ := trodAll_cons hA
  obtain ⟨rfl, rfl, rfl⟩ := trodAll_nil r0
  obtain rfl : args = #[v0] := by cases args; simp_all
  obtain ⟨rfl, rfl⟩ := trodVars_none hV
  have k0 := h0
  have lt0 : ∀ x ∈ p0, x.block < W.heap.size := by obtain ⟨m, hm⟩ := k0; exact DataW.trod_lt m _ _ _ hm
  obtain ⟨fuel0, hf0⟩ := h0
  obtain ⟨x0, hR0, w0⟩ := opn_bytes.op hf0 (each_of hsz (j := 0) rfl rfl)
  obtain ⟨a00, l00, c00, rfl⟩ := okWide_slice Try.underlying55 (hval 0 55 v0 rfl rfl)
  have a0 := arg_one rfl hR0
  clear hA0 hval0 hsz0 hsz
  have H := s_FnScoresAny x0 w0 W (fun b => b < W.heap.size) [_] (fun _ h => h) ⟨a0, trivial⟩
  refine H.mono fun e W' ⟨v, r, he, hr, ho⟩ => ?_
  subst he hr
  obtain ⟨rfl, bel⟩ := out_bool ho
  exact ⟨_, rfl, _, _, _, [], _, [], hW', trodAll_mk1 (shut_bool Try.underlying4 _), (trodAll_cons_mk (Below.trod laidOut (by kernel_rfl) (of_decide_eq_true (by kernel_rfl)) k0 bel lt0) trodAll_mk0), rfl, bel.frame _, fun h => by cases h⟩
set_option maxHeartbeats 4000000 in
theorem facts : joinedFacts Try.pinned.checked.prog 7 Try.f7 Rows.fnScoresAnySpec Rows.fnScoresAnyRow = true := by
  simp only [joinedFacts, Bool.and_eq_true]
  repeat' apply And.intro
  all_goals (as_aux_lemma => kernel_rfl)
theorem over : Rows.fnScoresAnyRow.holds Try.pinned (OpenSpec.ofChange Rows.fnScoresAnySpec) :=
  OpenClaim.holds_of_wide 7 Try.f7 rfl rfl rfl rfl rfl rfl rfl ⟨rfl, rfl, rfl, rfl, rfl⟩ rfl rfl rfl rfl rfl (by kernel_rfl) Try.func7 facts
    (of_decide_eq_true (by kernel_rfl)) (by unfold Func.isWrapper; first | (rw [if_pos (by decide +kernel)]; kernel_rfl) | (rw [if_neg (by decide +kernel)]; exact ⟨rfl, rfl⟩))
    (fun os started H enc _ => lifted os started H enc)
theorem proved : Rows.FnScoresAnySaid := over
#print axioms proved
end Go.Proofs.Ythbhnjcnbnlidaa.fnScoresAny
namespace Go.Proofs.Ythbhnjcnbnlidaa
theorem fnScoresAny_holds : Rows.FnScoresAnySaid := fnScoresAny.proved
end Go.Proofs.Ythbhnjcnbnlidaa
