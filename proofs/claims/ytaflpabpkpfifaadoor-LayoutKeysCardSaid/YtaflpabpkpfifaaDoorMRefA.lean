/- The walks over package ambryref01: fields and texts as strings. -/
import Derived.Test.YtaflpabpkpfifaaDoorMField
namespace Go.Proofs.YtaflpabpkpfifaaDoor
set_option maxRecDepth 100000
open Go.RowKit Go.Amb
set_option linter.unusedVariables false

set_option maxHeartbeats 400000 in
theorem refField (n : Int) (m : Nat) (w : World) (hlo : -9223372036854775808 ≤ n) (hhi : n ≤ 9223372036854775807) (hm : m ≤ 8) :
    Calls Tryd.prog 73 #[.int .i64 n, .int .i64 m] w (Ret (.string ⟨(fld n m).toArray⟩) w) := by
  have hi := Lib.hid (@info_u8)
  have hf : Hid (∀ i, i < 8 → byteAt (IntKind.u64.wrap n) i = byteAt n i) := by
    intro i hi
    rw [← byteAt_mod n i 8 hi]
    congr 1
  have hb : 0 ≤ IntKind.u64.wrap n ∧ IntKind.u64.wrap n < 18446744073709551616 := by simp only [IntKind.wrap_u64]; omega
  obtain ⟨hb0, hb1⟩ := hb
  go_enter Tryd.func73, Tryd.ntmps73
  go_wp2_with fail
  generalize IntKind.u64.wrap n = u at *
  go_loopw [6, 7] (fun o i wr => ∃ k : Nat, k ≤ m ∧ i = .int .i64 ((k : Int) - 1) ∧ Own wr w.heap.size 5 o (fldTo u m (m - k)) ∧ Upd Non w wr) (fun _ i _ => (intOf i + 1).toNat)
  case atStart => exact ⟨m, by omega, rfl, by rw [Nat.sub_self]; exact World.ownsRow_nil _ _ _ _, Upd.refl _ _⟩
  case round =>
    obtain ⟨k, hk, rfl, ho, hu⟩ := hrel
    by_cases hz : k = 0
    · subst hz
      go_wp2_with (refine wpList_str rfl _ 86 9 5 rfl Tryd.underlying86 Tryd.underlying5 Tryd.underlying9 _ _ rfl ho.bytes ?_)
      go_ret
      refine ⟨?_, hu⟩
      have e : fldTo u m m = fld n m := List.map_congr_left fun t ht => hf.out _ (by have := List.mem_range.1 ht; omega)
      rw [e]; rfl
    · have hsz := hu.size
      go_wp2_with (at_builtin; go_must (refine wpList_app1 rfl _ _ 86 rfl w.heap.size 5 (.int .u8 0) 1 1 Tryd.underlying86 hi.out rfl _ _ _ rfl ho [.int .u8 _] rfl rfl ?h1c ?h63 ?hby (by omega) ?_))
      case h1c => intro u hu; rw [List.mem_singleton] at hu; subst hu; rfl
      case h63 => simp [fldTo_length]; unfold maxLen; omega
      case hby => simp [fldTo_length]; omega
      intro v' w' ho' hu' hf'
      go_wp2_with fail
      go_roundw
      case rel =>
        refine ⟨k - 1, by omega, by go_num, ?_, hu.trans hu' fun j hj h => absurd (own_ge ho h) (by omega)⟩
        rw [show m - (k - 1) = (m - k) + 1 by omega, fldTo_succ]
        refine own_snoc ho' ?_
        rw [show m - 1 - (m - k) = k - 1 by omega, byteAt_int]
      case measure => simp [intOf]; omega

/-- A text's bytes. -/
def txt (s : List UInt8) : List UInt8 := fld s.length 4 ++ s

end Go.Proofs.YtaflpabpkpfifaaDoor
