/- RingFound: behind a crash all records that were synced are found, and behind them some of those that were appended since, in order, and no other; opened again, the same: whatever the four, the call answers true, and nothing else changes. -/
import Derived.Test.YtmnoldikimcafaaMRingFoundW
import Derived.Test.YtmnoldikimcafaaMRgRow
import Derived.Test.YtmnoldikimcafaaMLawKit
namespace Go.Proofs.Ytmnoldikimcafaa.rowRingFound
set_option maxRecDepth 100000
open Go.ChangeShapes Go.WideShapes Go.ChangeAt Go.RowKit Go.Amb
open Go.ChangeMaps (open_string)
set_option linter.unusedVariables false

theorem own : ownKnob Try.prog.godebug = none := by kernel_rfl
theorem laidOut : laidOutB Try.prog = true := by kernel_rfl

theorem contract (H : Type) (enc : TypeId × Value → H) (W : World) (base : Nat) (args : Array Value) (ds gs : List (DataW H)) (before : List MemPlace)
    (hval : ∀ (j : Nat) t v, Try.f3.params[j]? = some t → args[j]? = some v → Value.okWide Try.prog W .any base t v)
    (hW : DataW.Whole enc Try.prog Try.f3.params.toList Rows.ringFoundSpec.vars false W args.toList ds gs before) :
    Calls Try.prog 3 args W fun e W' => ∃ v, e = .returned v ∧ Rows.ringFoundSpec.post enc Try.prog Try.f3 false true false false W args v W' := by
  have hW' := hW
  obtain ⟨p, q, hA0, hV, rfl, hfz, hnd⟩ := hW
  have hA : DataW.TrodAll enc Try.prog W 0 (fun _ => true) true Try.f3.params.toList args.toList ds p := hA0
  rw [Try.params3] at hA hval
  obtain ⟨v0, vs0, d0, ds0, p0, q0, hv0, rfl, rfl, h0, r0⟩ := trodAll_cons hA
  obtain ⟨v1, vs1, d1, ds1, p1, q1, hv1, rfl, rfl, h1, r1⟩ := trodAll_cons r0
  obtain ⟨v2, vs2, d2, ds2, p2, q2, hv2, rfl, rfl, h2, r2⟩ := trodAll_cons r1
  obtain ⟨v3, vs3, d3, ds3, p3, q3, hv3, rfl, rfl, h3, r3⟩ := trodAll_cons r2
  obtain ⟨rfl, rfl, rfl⟩ := trodAll_nil r3
  obtain rfl : args = #[v0, v1, v2, v3] := by cases args; simp_all
  obtain ⟨rfl, rfl⟩ := trodVars_none hV
  obtain ⟨m0, hs0⟩ := slice_cells Try.underlying22 (hval 0 22 v0 rfl rfl) h0
  obtain ⟨rw0, hB0, hlt0, hd0, hr0⟩ := open_rows Try.underlying22 (by kernel_rfl) (by decide : 0 < 1) hs0
  obtain ⟨l0, rfl, g0⟩ := rows_map rw0 fun r h => by obtain ⟨hr, m, x, hx⟩ := hr0 r h; exact row_txt hr hx
  rw [List.length_map] at hB0 hlt0
  obtain ⟨m1, hs1⟩ := slice_cells Try.underlying22 (hval 1 22 v1 rfl rfl) h1
  obtain ⟨rw1, hB1, hlt1, hd1, hr1⟩ := open_rows Try.underlying22 (by kernel_rfl) (by decide : 0 < 1) hs1
  obtain ⟨l1, rfl, g1⟩ := rows_map rw1 fun r h => by obtain ⟨hr, m, x, hx⟩ := hr1 r h; exact row_txt hr hx
  rw [List.length_map] at hB1 hlt1
  obtain ⟨l2, sp2, hB2, hw2, hd2, hlt2⟩ := open_has Try.underlying23 Try.underlying3 (by kernel_rfl) (hval 2 23 v2 rfl rfl) h2
  obtain ⟨x3, rfl, rfl, rfl, w3⟩ := open_int Try.underlying3 (hval 3 3 v3 rfl rfl) h3
  have b3 := wf_bounds w3
  refine (found06 v0 v1 v2 l0 l1 l2 x3 W (txts_of hB0) (txts_of hB1) hB2 hlt2 (txts_len hB0) (txts_len hB1)).mono fun e W' ⟨he, hu⟩ => ?_
  subst he
  exact ⟨_, rfl, law_post 4 Try.underlying4 rfl laidOut (by kernel_rfl) rfl hW' rfl rfl rfl (hu.fresh fun _ _ h => h)⟩

set_option maxRecDepth 100000 in
theorem lifted (os : Os) (started : os.Started) (H : Type) (enc : TypeId × Value → H) :
    ReturnsInHanded {} Try.checked os 3 .any (Rows.ringFoundSpec.pre6 enc Try.prog Try.f3 Rows.ringFoundRow.domain false) (Rows.ringFoundSpec.post enc Try.prog Try.f3 false true false false) := by
  refine returnsInHanded_of_change (C := Try.checked) own started (by kernel_rfl) Try.func3
    (ChangeSpec.witness6 (enc := enc) (C := Try.checked) false ⟨#[], #[.slice none 0 0, .slice none 0 0, .slice none 0 0, .int .i64 0], []⟩ 8 (by kernel_rfl) (by kernel_rfl) (by kernel_rfl) (by kernel_rfl)) ?_
  intro W base args ds gs before hval hW _ _ 
  exact contract H enc W base args ds gs before hval hW

theorem proved : Rows.RingFoundSaid :=
  OpenClaim.holds_of_wide 3 Try.f3 rfl rfl rfl rfl rfl rfl rfl ⟨rfl, rfl, rfl, rfl, rfl⟩ rfl rfl rfl rfl rfl (by kernel_rfl) Try.func3 (by kernel_rfl)
    (of_decide_eq_true (by kernel_rfl)) (by unfold Func.isWrapper; first | (rw [if_pos (by decide +kernel)]; kernel_rfl) | (rw [if_neg (by decide +kernel)]; exact ⟨rfl, rfl⟩))
    (fun os started H enc _ => lifted os started H enc)
end Go.Proofs.Ytmnoldikimcafaa.rowRingFound
