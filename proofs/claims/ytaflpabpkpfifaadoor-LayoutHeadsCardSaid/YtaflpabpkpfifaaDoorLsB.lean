/- The walks over strings.HasPrefix, strings.Index at a text of one byte, listing.of; and the reference's begins, entry. -/
import Derived.Test.YtaflpabpkpfifaaDoorLsP
import Derived.Test.YtaflpabpkpfifaaDoorLibE
import Derived.Test.YtaflpabpkpfifaaDoorLibF
import Derived.Test.YtaflpabpkpfifaaDoorRows
namespace Go.Proofs.YtaflpabpkpfifaaDoor
set_option maxRecDepth 100000
open Go.RowKit Go.Amb
set_option linter.unusedVariables false
set_option linter.unusedSimpArgs false
theorem begins_iff (s p : Str) : begins s p = (decide (p.length ≤ s.length) && (s.take p.length == p)) := by
  unfold begins
  by_cases h : p.length ≤ s.length <;> by_cases h' : s.take p.length = p <;> simp [h, h']
set_option maxHeartbeats 1000000 in
theorem lIxByte (s : Str) (c : UInt8) (w : World) : Calls Tryd.prog 78 #[txtV s, .int .u8 c.toNat] w (Ret (.int .i64 (Lib.indexByte s c)) w) := by
  unfold txtV
  have hx := Lib.run_indexByteString (P := Tryd.prog) ⟨s.toArray⟩ c.toNat w
  have hc : ((c.toNat : Int)).toNat.toUInt8 = c := by simp
  rw [hc] at hx
  go_enter Tryd.func78, Tryd.ntmps78
  go_wp2_with fail
  rw [run_callFunc_extern Tryd.func89 (by kernel_rfl) (by kernel_rfl) (by kernel_rfl) (e := Extern.BytealgIndexByte.indexByte) (by kernel_rfl), hx]
  simp only [Result.andThen]
  rw [Oper.upon_value]
  go_wp2_with fail
  go_ret
  exact ⟨rfl, Upd.refl _ _⟩
set_option maxHeartbeats 1000000 in
theorem lSIndex (s : Str) (c : UInt8) (w : World) : Calls Tryd.prog 62 #[txtV s, txtV [c]] w (Ret (.int .i64 (Lib.indexByte s c)) w) := by
  by_cases he : [c] = s
  · subst he
    have h0 : Lib.indexByte [c] c = 0 := by simp [Lib.indexByte]
    rw [h0]
    unfold txtV
    go_enter Tryd.func62, Tryd.ntmps62
    go_wp2_with fail
    go_ret
    exact ⟨rfl, Upd.refl _ _⟩
  · have cI := fun w => lIxByte s c w
    unfold txtV at *
    have he' : ([c] == s) = false := by simpa using he
    have he2 : ([c] = s) = False := eq_false he
    clear he
    go_enter Tryd.func62, Tryd.ntmps62
    go_wp2_with fail
    refine (cI w).mono ?_
    rintro e w' ⟨rfl, hu⟩
    simp only []
    go_wp2_with fail
    go_ret
    exact ⟨rfl, hu⟩
theorem lIndex (s : Str) (c : UInt8) (w : World) : Calls Tryd.prog 41 #[txtV s, txtV [c]] w (Ret (.int .i64 (Lib.indexByte s c)) w) := by
  have cI := fun w => lSIndex s c w
  unfold txtV at *
  go_enter Tryd.func41, Tryd.ntmps41
  go_wp2_with fail
  refine (cI w).mono ?_
  rintro e w' ⟨rfl, hu⟩
  simp only []
  go_wp2_with fail
  go_ret
  exact ⟨rfl, hu⟩
theorem cell2 {w : World} {b : Nat} {c0 c1 : Value} {t : TypeId} (h : w.heap[b]? = some (.cells #[c0, c1] t (0, 0))) : w.cell? ⟨b, 0, none⟩ = some c0 ∧ w.cell? ⟨b, 1, none⟩ = some c1 := ⟨(cells_of h).1 0, (cells_of h).1 1⟩
abbrev entV (x : Ent) : Value := .agg #[txtV x.1, .bool x.2]
theorem len1 {d : Str} (h : d.length ≤ 1) : d = [] ∨ ∃ c, d = [c] := by
  match d, h with
  | [], _ => exact .inl rfl
  | [c], _ => exact .inr ⟨c, rfl⟩
  | _ :: _ :: _, h => simp at h
end Go.Proofs.YtaflpabpkpfifaaDoor
