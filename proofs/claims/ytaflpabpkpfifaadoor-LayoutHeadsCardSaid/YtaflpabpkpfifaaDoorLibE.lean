/- Pieces of a text, the first byte of a kind. No program stands here. -/
import Derived.Test.YtaflpabpkpfifaaDoorLib
import Derived.WalkSmall
import Derived.LoopNIn
import Derived.LoopIn
import Derived.TacticsInMore
import Derived.Lib.Bytealg
namespace Go.Amb
open Go.RowKit
theorem run_subTo {P : Program} (t : TypeId) (hu : P.underlying t = some .string) (s : List UInt8) (hi : Int) (h : Nat) (hh : hi = h) (h2 : h ≤ s.length) (w : World) :
    (Instr.slice t (.string ⟨s.toArray⟩) none (some (.int .i64 hi)) none).run P w = .ok (.string ⟨(s.take h).toArray⟩) w := by
  subst hh
  have := run_slice_string_h (P := P) w t ⟨s.toArray⟩ hu .i64 (h : Int) (by omega) (by simp [ByteArray.size]; omega)
  rw [this, Int.toNat_natCast, ByteArray.extract_mk]
  simp
theorem run_subFrom {P : Program} (t : TypeId) (hu : P.underlying t = some .string) (s : List UInt8) (lo : Int) (l : Nat) (hl : lo = l) (h2 : l ≤ s.length) (w : World) :
    (Instr.slice t (.string ⟨s.toArray⟩) (some (.int .i64 lo)) none none).run P w = .ok (.string ⟨(s.drop l).toArray⟩) w := by
  subst hl
  have := run_slice_string_l (P := P) w t ⟨s.toArray⟩ hu .i64 (l : Int) (by omega) (by simp [ByteArray.size]; omega)
  rw [this, Int.toNat_natCast, ByteArray.extract_mk]
  simp [ByteArray.size]
  exact List.take_of_length_le (by simp)
theorem indexByte_find (c : UInt8) : ∀ l : List UInt8, Lib.indexByte l c = match l.findIdx? (· == c) with | some i => (i : Int) | none => -1
  | [] => rfl
  | b :: l => by
    rw [Lib.indexByte, List.findIdx?_cons]
    by_cases h : (b == c) = true
    · rw [if_pos h, if_pos h]; rfl
    · rw [if_neg h, if_neg h, indexByte_find c l]
      cases l.findIdx? (· == c) with
      | none => rfl
      | some i =>
        have : ((i : Int) == -1) = false := by rw [beq_eq_false_iff_ne]; omega
        simp [this]
end Go.Amb
