/- SuperEither: whatever saves, fuses and keeps, what is found is the save's own, or the one before it: whatever the three, the call answers true, and nothing else changes. -/
import Derived.Test.YtgdkgnolkepgdaaMSuperEitherW
import Derived.Test.YtgdkgnolkepgdaaMLawKit
namespace Go.Proofs.Ytgdkgnolkepgdaa.rowSuperEither
set_option maxRecDepth 100000
open Go.ChangeShapes Go.WideShapes Go.ChangeAt Go.RowKit Go.Amb
open Go.ChangeMaps (open_string)
set_option linter.unusedVariables false

theorem own : ownKnob Try.prog.godebug = none := by kernel_rfl
theorem laidOut : laidOutB Try.prog = true := by kernel_rfl

theorem contract (H : Type) (enc : TypeId × Value → H) (W : World) (base : Nat) (args : Array Value) (ds gs : List (DataW H)) (before : List MemPlace)
    (hval : ∀ (j : Nat) t v, Try.f7.params[j]? = some t → args[j]? = some v → Value.okWide Try.prog W .any base t v)
    (hW : DataW.Whole enc Try.prog Try.f7.params.toList Rows.superEitherSpec.vars false W args.toList ds gs before) (hsz : (DataW.weightsEach Try.prog (Try.f7.params.toList ++ Rows.superEitherSpec.plain.varTypes Try.prog) (ds ++ gs)).all (· ≤ reachBytes) = true) :
    Calls Try.prog 7 args W fun e W' => ∃ v, e = .returned v ∧ Rows.superEitherSpec.post enc Try.prog Try.f7 false true false false W args v W' := by
  have hW' := hW
  obtain ⟨p, q, hA0, hV, rfl, hfz, hnd⟩ := hW
  have hA : DataW.TrodAll enc Try.prog W 0 (fun _ => true) true Try.f7.params.toList args.toList ds p := hA0
  rw [Try.params7] at hA hval
  obtain ⟨v0, vs0, d0, ds0, p0, q0, hv0, rfl, rfl, h0, r0⟩ := trodAll_cons hA
  obtain ⟨v1, vs1, d1, ds1, p1, q1, hv1, rfl, rfl, h1, r1⟩ := trodAll_cons r0
  obtain ⟨v2, vs2, d2, ds2, p2, q2, hv2, rfl, rfl, h2, r2⟩ := trodAll_cons r1
  obtain ⟨rfl, rfl, rfl⟩ := trodAll_nil r2
  obtain rfl : args = #[v0, v1, v2] := by cases args; simp_all
  obtain ⟨rfl, rfl⟩ := trodVars_none hV
  obtain ⟨m0, hs0⟩ := slice_cells Try.underlying43 (hval 0 43 v0 rfl rfl) h0
  obtain ⟨rw0, hB0, hlt0, hd0, hr0⟩ := open_rows Try.underlying43 (by kernel_rfl) (by decide : 0 < 6) hs0
  obtain ⟨l0, rfl, g0⟩ := rows_map rw0 fun r h => by obtain ⟨hr, m, x, hx⟩ := hr0 r h; exact row_super hr hx
  rw [List.length_map] at hB0 hlt0
  obtain ⟨l1, hB1, hd1, hlt1⟩ := open_bytes Try.underlying24 Try.underlying5 (by kernel_rfl) (hval 1 24 v1 rfl rfl) h1
  obtain ⟨m2, hs2⟩ := slice_cells Try.underlying44 (hval 2 44 v2 rfl rfl) h2
  obtain ⟨rw2, hB2, hlt2, hd2, hr2⟩ := open_rows Try.underlying44 (by kernel_rfl) (by decide : 0 < 1) hs2
  obtain ⟨l2, rfl, g2⟩ := rows_map rw2 fun r h => by obtain ⟨hr, m, x, hx⟩ := hr2 r h; exact row_ints hr hx
  rw [List.length_map] at hB2 hlt2
  have z1 := reach_bytes (P := Try.prog) hsz (j := 1) rfl rfl Try.underlying24 (by kernel_rfl) hd1
  refine (either11 v0 v1 v2 l0 l1 l2 W (sups_in hB0) hB1 (rows2_in hB2 g2) (by omega)).mono fun e W' ⟨he, hu⟩ => ?_
  subst he
  exact ⟨_, rfl, law_post 4 Try.underlying4 rfl laidOut (by kernel_rfl) rfl hW' rfl rfl rfl (hu.fresh fun _ _ h => h)⟩

set_option maxRecDepth 100000 in
theorem lifted (os : Os) (started : os.Started) (H : Type) (enc : TypeId × Value → H) :
    ReturnsInHanded {} Try.checked os 7 .any (Rows.superEitherSpec.pre6 enc Try.prog Try.f7 Rows.superEitherRow.domain false) (Rows.superEitherSpec.post enc Try.prog Try.f7 false true false false) := by
  refine returnsInHanded_of_change_sized (C := Try.checked) own started (by kernel_rfl) Try.func7
    (ChangeSpec.witness6 (enc := enc) (C := Try.checked) false ⟨#[], #[.slice none 0 0, .slice none 0 0, .slice none 0 0], []⟩ 8 (by kernel_rfl) (by kernel_rfl) (by kernel_rfl) (by kernel_rfl)) ?_
  intro W base args ds gs before hval hW _ hz _
  exact contract H enc W base args ds gs before hval hW hz

theorem proved : Rows.SuperEitherSaid :=
  OpenClaim.holds_of_wide 7 Try.f7 rfl rfl rfl rfl rfl rfl rfl ⟨rfl, rfl, rfl, rfl, rfl⟩ rfl rfl rfl rfl rfl (by kernel_rfl) Try.func7 (by kernel_rfl)
    (of_decide_eq_true (by kernel_rfl)) (by unfold Func.isWrapper; first | (rw [if_pos (by decide +kernel)]; kernel_rfl) | (rw [if_neg (by decide +kernel)]; exact ⟨rfl, rfl⟩))
    (fun os started H enc _ => lifted os started H enc)
end Go.Proofs.Ytgdkgnolkepgdaa.rowSuperEither
