/- slot.pieces: the iterator over a record's pieces. -/
import Derived.Test.YtiadbijholnbjaaSlA
import Derived.WalkSmall
import Derived.LoopNIn
import Derived.LoopIn
import Derived.TacticsInMore
import Derived.Test.YtiadbijholnbjaaRows
namespace Go.Amb
open Go.RowKit
theorem run_subTo {P : Program} (t : TypeId) (hu : P.underlying t = some .string) (s : List UInt8) (hi : Int) (h : Nat) (hh : hi = h) (h2 : h ≤ s.length) (w : World) :
    (Instr.slice t (.string ⟨s.toArray⟩) none (some (.int .i64 hi)) none).run P w = .ok (.string ⟨(s.take h).toArray⟩) w := by
  subst hh
  have := run_slice_string_h (P := P) w t ⟨s.toArray⟩ hu .i64 (h : Int) (by omega) (by simp [ByteArray.size]; omega)
  rw [this, Int.toNat_natCast, ByteArray.extract_mk]
  simp
theorem run_subFrom {P : Program} (t : TypeId) (hu : P.underlying t = some .string) (s : List UInt8) (lo : Int) (l : Nat) (hl : lo = l) (h2 : l ≤ s.length) (w : World) :
    (Instr.slice t (.string ⟨s.toArray⟩) (some (.int .i64 lo)) none none).run P w = .ok (.string ⟨(s.drop l).toArray⟩) w := by
  subst hl
  have := run_slice_string_l (P := P) w t ⟨s.toArray⟩ hu .i64 (l : Int) (by omega) (by simp [ByteArray.size]; omega)
  rw [this, Int.toNat_natCast, ByteArray.extract_mk]
  simp [ByteArray.size]
  exact List.take_of_length_le (by simp)
/-- A record's piece i, and how many there are. -/
def pieceB (s : List UInt8) (i : Nat) : List UInt8 := (s.drop (108 * i)).take 108
def pieceN (s : List UInt8) : Nat := max 1 ((s.length + 107) / 108)
def pieceE (s : List UInt8) (i : Nat) : Array Value := #[.int .i64 (i : Int), .string ⟨(pieceB s i).toArray⟩]
end Go.Amb
namespace Go.Proofs.Ytiadbijholnbjaa
open Go.RowKit Go.Amb Go.Shelf
set_option linter.unusedVariables false
set_option maxRecDepth 100000
attribute [local go_sem] Oper.semAt_some
set_option maxHeartbeats 1000000 in
theorem iter_pieces (s : List UInt8) (hs : s.length ≤ 16384) (b : Nat) : Iter Try.prog 37 #[.pointer (some ⟨b, 0, none⟩)] b (pieceE s) (pieceN s) (.cells #[.string ⟨s.toArray⟩] 9 (0, 0)) := by
  intro l J W hW hJb hY h0
  refine callsIn_of_wp Try.func37 rfl trivial ?_ rfl
  simp only [Try.ntmps37, List.size_toArray, List.length_cons, List.length_nil, Nat.reduceAdd, Nat.reduceSub, Array.replicate_succ, Array.replicate_zero, List.push_toArray, List.append_toArray, List.nil_append, List.cons_append]
  gi_wp2
  gi_loopw [3] (fun iv wr => ∃ i : Nat, iv = .int .i64 (i : Int) ∧ i < pieceN s ∧ (i = 0 ∨ 108 * i < s.length) ∧ wr.heap[b]? = some (.cells #[.string ⟨(s.drop (108 * i)).toArray⟩] 9 (0, 0)) ∧ J i wr) (fun iv _ => pieceN s - (intOf iv).toNat)
  case atStart => exact ⟨0, rfl, by unfold pieceN; omega, .inl rfl, by simpa using hW, h0⟩
  case round =>
    obtain ⟨i, rfl, hi, hpos, hbx, hJ⟩ := hrel
    have hc := (cells_of hbx).1 0
    have hf := (cells_of hbx).2 0
    have hy0 := hY i wr hi hJ
    unfold pieceE pieceB at hy0
    have hlen : (s.drop (108 * i)).length = s.length - 108 * i := by simp
    have hnext : s.drop (108 * (i + 1)) = (s.drop (108 * i)).drop 108 := by rw [List.drop_drop]; congr 1
    generalize s.drop (108 * i) = t at *
    have hi63 : i < 9223372036854775807 := by unfold pieceN at hi; omega
    by_cases hl : t.length ≤ 108
    · have hN : pieceN s = i + 1 := by unfold pieceN at *; omega
      have hl' : (t.length : Int) ≤ 108 := by omega
      rw [List.take_of_length_le hl] at hy0
      obtain ⟨fn, tmps, assign, body, hy, hR⟩ := hy0
      clear hY
      gi_wp2
      refine hR.mono ?_
      rintro e W3 ⟨rfl, hJ3, hk3⟩
      gi_wp2
      refine bodyPost_ret (results_none rfl _ _ _) rfl ?_
      exact ⟨⟨_, rfl⟩, by rw [hN]; exact hJ3⟩
    · have hl' : ¬ (t.length : Int) ≤ 108 := by omega
      have h1 := fun w => run_subTo (P := Try.prog) 9 Try.underlying9 t 108 108 rfl (by omega) w
      have h2 := fun w => run_subFrom (P := Try.prog) 9 Try.underlying9 t 108 108 rfl (by omega) w
      obtain ⟨fn, tmps, assign, body, hy, hR⟩ := hy0
      clear hY
      gi_wp2
      refine hR.mono ?_
      rintro e W3 ⟨rfl, hJ3, hk3⟩
      have hb3 := hk3.trans hbx
      have hc3 := (cells_of hb3).1 0
      have hf3 := (cells_of hb3).2 0
      gi_wp2
      go_roundw
      case rel => exact ⟨i + 1, by go_num, by unfold pieceN at *; omega, by omega, by rw [hnext]; exact heap_setCell_same _ b 0 _ _ _ hb3, hJb _ _ _ hJ3⟩
      case measure => simp [intOf]; omega
end Go.Proofs.Ytiadbijholnbjaa
