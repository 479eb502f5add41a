/- RingRoom: a ring takes records just as long as their slots have room; what was let go makes room: whatever the records, the call answers true, and nothing else changes. -/
import Derived.Test.YtmnoldikimcafaaMRingRoomW
import Derived.Test.YtmnoldikimcafaaMRgRow
import Derived.Test.YtmnoldikimcafaaMLawKit
namespace Go.Proofs.Ytmnoldikimcafaa.rowRingRoom
set_option maxRecDepth 100000
open Go.ChangeShapes Go.WideShapes Go.ChangeAt Go.RowKit Go.Amb
open Go.ChangeMaps (open_string)
set_option linter.unusedVariables false

theorem own : ownKnob Try.prog.godebug = none := by kernel_rfl
theorem laidOut : laidOutB Try.prog = true := by kernel_rfl

theorem contract (H : Type) (enc : TypeId × Value → H) (W : World) (base : Nat) (args : Array Value) (ds gs : List (DataW H)) (before : List MemPlace)
    (hval : ∀ (j : Nat) t v, Try.f4.params[j]? = some t → args[j]? = some v → Value.okWide Try.prog W .any base t v)
    (hW : DataW.Whole enc Try.prog Try.f4.params.toList Rows.ringRoomSpec.vars false W args.toList ds gs before) :
    Calls Try.prog 4 args W fun e W' => ∃ v, e = .returned v ∧ Rows.ringRoomSpec.post enc Try.prog Try.f4 false true false false W args v W' := by
  have hW' := hW
  obtain ⟨p, q, hA0, hV, rfl, hfz, hnd⟩ := hW
  have hA : DataW.TrodAll enc Try.prog W 0 (fun _ => true) true Try.f4.params.toList args.toList ds p := hA0
  rw [Try.params4] at hA hval
  obtain ⟨v0, vs0, d0, ds0, p0, q0, hv0, rfl, rfl, h0, r0⟩ := trodAll_cons hA
  obtain ⟨rfl, rfl, rfl⟩ := trodAll_nil r0
  obtain rfl : args = #[v0] := by cases args; simp_all
  obtain ⟨rfl, rfl⟩ := trodVars_none hV
  obtain ⟨m0, hs0⟩ := slice_cells Try.underlying22 (hval 0 22 v0 rfl rfl) h0
  obtain ⟨rw0, hB0, hlt0, hd0, hr0⟩ := open_rows Try.underlying22 (by kernel_rfl) (by decide : 0 < 1) hs0
  obtain ⟨l0, rfl, g0⟩ := rows_map rw0 fun r h => by obtain ⟨hr, m, x, hx⟩ := hr0 r h; exact row_txt hr hx
  rw [List.length_map] at hB0 hlt0
  refine (room06 v0 l0 W (txts_of hB0) (txts_len hB0)).mono fun e W' ⟨he, hu⟩ => ?_
  subst he
  exact ⟨_, rfl, law_post 4 Try.underlying4 rfl laidOut (by kernel_rfl) rfl hW' rfl rfl rfl (hu.fresh fun _ _ h => h)⟩

set_option maxRecDepth 100000 in
theorem lifted (os : Os) (started : os.Started) (H : Type) (enc : TypeId × Value → H) :
    ReturnsInHanded {} Try.checked os 4 .any (Rows.ringRoomSpec.pre6 enc Try.prog Try.f4 Rows.ringRoomRow.domain false) (Rows.ringRoomSpec.post enc Try.prog Try.f4 false true false false) := by
  refine returnsInHanded_of_change (C := Try.checked) own started (by kernel_rfl) Try.func4
    (ChangeSpec.witness6 (enc := enc) (C := Try.checked) false ⟨#[], #[.slice none 0 0], []⟩ 8 (by kernel_rfl) (by kernel_rfl) (by kernel_rfl) (by kernel_rfl)) ?_
  intro W base args ds gs before hval hW _ _ 
  exact contract H enc W base args ds gs before hval hW

theorem proved : Rows.RingRoomSaid :=
  OpenClaim.holds_of_wide 4 Try.f4 rfl rfl rfl rfl rfl rfl rfl ⟨rfl, rfl, rfl, rfl, rfl⟩ rfl rfl rfl rfl rfl (by kernel_rfl) Try.func4 (by kernel_rfl)
    (of_decide_eq_true (by kernel_rfl)) (by unfold Func.isWrapper; first | (rw [if_pos (by decide +kernel)]; kernel_rfl) | (rw [if_neg (by decide +kernel)]; exact ⟨rfl, rfl⟩))
    (fun os started H enc _ => lifted os started H enc)
end Go.Proofs.Ytmnoldikimcafaa.rowRingRoom
