/- TupleBack: whatever the parts and bytes, the call answers true, and nothing else changes. -/
import Derived.Test.YtnlmdagmhfcdeaaTupleBackW
import Derived.Test.YtnlmdagmhfcdeaaTRow
import Derived.Test.YtnlmdagmhfcdeaaLawKit
namespace Go.Proofs.Ytnlmdagmhfcdeaa.rowTupleBack
open Go.ChangeShapes Go.WideShapes Go.ChangeAt Go.RowKit Go.Amb
open Go.ChangeMaps (open_string)
set_option linter.unusedVariables false

theorem own : ownKnob Try.prog.godebug = none := by kernel_rfl
theorem laidOut : laidOutB Try.prog = true := by kernel_rfl

theorem contract (H : Type) (enc : TypeId × Value → H) (W : World) (base : Nat) (args : Array Value) (ds gs : List (DataW H)) (before : List MemPlace)
    (hval : ∀ (j : Nat) t v, Try.f9.params[j]? = some t → args[j]? = some v → Value.okWide Try.prog W .any base t v)
    (hW : DataW.Whole enc Try.prog Try.f9.params.toList Rows.tupleBackSpec.vars false W args.toList ds gs before) (hsz : (DataW.weightsEach Try.prog (Try.f9.params.toList ++ Rows.tupleBackSpec.plain.varTypes Try.prog) (ds ++ gs)).all (· ≤ reachBytes) = true) :
    Calls Try.prog 9 args W fun e W' => ∃ v, e = .returned v ∧ Rows.tupleBackSpec.post enc Try.prog Try.f9 false true false false W args v W' := by
  have hW' := hW
  obtain ⟨p, q, hA0, hV, rfl, hfz, hnd⟩ := hW
  have hA : DataW.TrodAll enc Try.prog W 0 (fun _ => true) true Try.f9.params.toList args.toList ds p := hA0
  rw [Try.params9] at hA hval
  obtain ⟨v0, vs0, d0, ds0, p0, q0, hv0, rfl, rfl, h0, r0⟩ := trodAll_cons hA
  obtain ⟨v1, vs1, d1, ds1, p1, q1, hv1, rfl, rfl, h1, r1⟩ := trodAll_cons r0
  obtain ⟨rfl, rfl, rfl⟩ := trodAll_nil r1
  obtain rfl : args = #[v0, v1] := by cases args; simp_all
  obtain ⟨rfl, rfl⟩ := trodVars_none hV
  obtain ⟨m0, hs0⟩ := slice_cells Try.underlying22 (hval 0 22 v0 rfl rfl) h0
  obtain ⟨rw0, hB0, hlt0, hd0, hr0⟩ := open_rows Try.underlying22 (by kernel_rfl) (by decide : 0 < 3) hs0
  have hw0 := rows_sized (P := Try.prog) hsz (j := 0) rfl rfl Try.underlying22 hd0
  obtain ⟨l0, rfl, g0⟩ := rows_map rw0 fun r h => by have hr := (hr0 r h).1; obtain ⟨m, x, hx, hw⟩ := hw0 r h; exact row_part hr hx hw
  rw [List.length_map] at hB0 hlt0
  obtain ⟨s1, rfl, rfl, rfl, w1⟩ := open_string Try.underlying9 (hval 1 9 v1 rfl rfl) h1
  obtain ⟨x1, rfl, e1, z1⟩ := bytes_of s1
  rw [e1] at *
  have z1' := sized_string (P := Try.prog) hsz (j := 1) rfl rfl
  refine (tback_any v0 l0 x1 W (okP_all g0) hB0).mono fun e W' ⟨he, hu⟩ => ?_
  subst he
  exact ⟨_, rfl, law_post 4 Try.underlying4 rfl laidOut (by kernel_rfl) rfl hW' rfl rfl rfl (hu.fresh fun _ _ h => h)⟩

set_option maxRecDepth 100000 in
theorem lifted (os : Os) (started : os.Started) (H : Type) (enc : TypeId × Value → H) :
    ReturnsInHanded {} Try.checked os 9 .any (Rows.tupleBackSpec.pre6 enc Try.prog Try.f9 Rows.tupleBackRow.domain false) (Rows.tupleBackSpec.post enc Try.prog Try.f9 false true false false) := by
  refine returnsInHanded_of_change_sized (C := Try.checked) own started (by kernel_rfl) Try.func9
    (ChangeSpec.witness6 (enc := enc) (C := Try.checked) false ⟨#[], #[.slice none 0 0, .string ⟨#[]⟩], []⟩ 8 (by kernel_rfl) (by kernel_rfl) (by kernel_rfl) (by kernel_rfl)) ?_
  intro W base args ds gs before hval hW _ hz _
  exact contract H enc W base args ds gs before hval hW hz

theorem proved : Rows.TupleBackSaid :=
  OpenClaim.holds_of_wide 9 Try.f9 rfl rfl rfl rfl rfl rfl rfl ⟨rfl, rfl, rfl, rfl, rfl⟩ rfl rfl rfl rfl rfl (by kernel_rfl) Try.func9 (by kernel_rfl)
    (of_decide_eq_true (by kernel_rfl)) (by unfold Func.isWrapper; first | (rw [if_pos (by decide +kernel)]; kernel_rfl) | (rw [if_neg (by decide +kernel)]; exact ⟨rfl, rfl⟩))
    (fun os started H enc _ => lifted os started H enc)
end Go.Proofs.Ytnlmdagmhfcdeaa.rowTupleBack
