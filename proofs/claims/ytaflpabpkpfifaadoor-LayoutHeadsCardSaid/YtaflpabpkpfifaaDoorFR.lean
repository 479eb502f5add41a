/- The walks over the readers of package field. -/
import Derived.Test.YtaflpabpkpfifaaDoorRdT
namespace Go.Proofs.YtaflpabpkpfifaaDoor
set_option maxRecDepth 100000
open Go.RowKit Go.Amb
set_option linter.unusedVariables false
variable {L : Nat}
attribute [local go_sem ↓] Go.wp_at_zero Go.wp_at_succ

/-- 'End' of the reference's reader. -/
def rdEnd (s : List UInt8) (a : Nat) (e : Int) : Int := if e = 0 then (if a < s.length then 5 else 0) else e
/-- A reader of package field in memory: it has s, stands at a, its error is e. -/
structure RdAt (w : World) (r L : Nat) (s : List UInt8) (a : Nat) (e : Int) : Prop where
  len : s.length ≤ 140737488355328
  le : a ≤ s.length
  ex : ∃ bv, w.heap[r]? = some (.cells #[.bool true, bv, .int .i64 a, .int .i64 e] 114 (0, 0)) ∧ Bytes w bv s ∧ (∀ k, At bv k → L ≤ k ∧ k < r) ∧ L ≤ r
/-- The bytes of a value that reads so, where there are any. -/
theorem bytes_at {w : World} {v : Value} {s : List UInt8} (h : Bytes w v s) (hs : 0 < s.length) : ∃ g off cap, v = .slice (some ⟨g, off, none⟩) s.length cap ∧ s.length ≤ cap ∧ cap ≤ maxLen ∧ ∀ j (hj : j < s.length), w.cell? ⟨g, off + j, none⟩ = some (.int .u8 (s[j].toNat : Int)) := by
  obtain ⟨hl, a, c, rfl, h1, h2, h3⟩ := h
  rcases h3 with h3 | ⟨g, off, rfl, hc⟩
  · omega
  · exact ⟨g, off, c, rfl, h1, h2, fun j hj => hc j _ ((bc_get s j _).2 ⟨hj, rfl⟩)⟩

set_option maxHeartbeats 800000 in
theorem fNumber_ok (r g off cap : Nat) (s : List UInt8) (a m : Nat) (e : Int) (w : World) (hr : w.heap[r]? = some (.cells #[.bool true, .slice (some ⟨g, off, none⟩) s.length cap, .int .i64 a, .int .i64 e] 114 (0, 0)))
    (hcap : s.length ≤ cap) (hm : cap ≤ maxLen) (hc : ∀ j (hj : j < s.length), w.cell? ⟨g, off + j, none⟩ = some (.int .u8 (s[j].toNat : Int))) (hs : s.length ≤ 140737488355328) (h : a + m ≤ s.length) (h1 : 1 ≤ m) (h8 : m ≤ 8) :
    Calls Tryd.prog 83 #[.pointer (some ⟨r, 0, none⟩), .int .i64 a, .int .i64 m] w fun e w' => e = .returned (.tuple #[.int .u64 (numL ((s.drop a).take m)), .bool true]) ∧ w = w' := by
  obtain ⟨c, f⟩ := cells_of hr
  clear f hr
  have hne : ¬ cap = a := by omega
  have hi : IntKind.i64.wrap ((a : Int) + (m : Int)) = (a : Int) + m := IntWalk.i64_in _ ⟨by omega, by omega⟩
  have hb1 : (a : Int) ≤ (a : Int) + m := by omega
  have hb2 : (a : Int) + m ≤ (cap : Int) := by omega
  replace hc := Lib.hid hc
  unfold maxLen at hm
  go_enter Tryd.func83, Tryd.ntmps83
  go_wp2_with fail
  go_loop [8, 10, 30] (fun u _ i => ∃ k : Nat, k ≤ m ∧ i = .int .i64 k ∧ u = .int .u64 (numL ((s.drop a).take k))) (fun _ _ i => m - (intOf i).toNat)
  case atStart => exact ⟨0, by omega, rfl, rfl⟩
  case round =>
    obtain ⟨k, hk, rfl, rfl⟩ := hrel
    by_cases hlt : k < m
    · have hck := hc.out (a + k) (by omega)
      rw [← Nat.add_assoc] at hck
      have hlt' : (k : Int) < m := by omega
      go_wp2_with fail
      go_round
      case rel =>
        refine ⟨k + 1, by omega, by go_num, ?_⟩
        rw [num_step _ _ (numL_nonneg _) (numL_lt_of (by simp; omega)), take_drop_succ s a k (by omega), numL_snoc]
      case measure => simp [intOf]; omega
    · obtain rfl : k = m := by omega
      go_wp2_with fail
      go_ret2
      exact ⟨rfl, rfl⟩

set_option maxHeartbeats 800000 in
theorem fNumber_short (r : Nat) (bv : Value) (s : List UInt8) (a m : Nat) (e : Int) (w : World) (hr : w.heap[r]? = some (.cells #[.bool true, bv, .int .i64 a, .int .i64 e] 114 (0, 0))) (hB : Bytes w bv s)
    (ha : a ≤ s.length) (hs : s.length ≤ 140737488355328) (h : ¬ a + m ≤ s.length) :
    Calls Tryd.prog 83 #[.pointer (some ⟨r, 0, none⟩), .int .i64 a, .int .i64 m] w fun e w' => e = .returned (.tuple #[.int .u64 0, .bool false]) ∧ w = w' := by
  obtain ⟨c, f⟩ := cells_of hr
  obtain ⟨hl, av, cv, rfl, h1, h2, h3⟩ := hB
  clear f hr h3 hl
  have hlt : (s.length : Int) - a < m := by omega
  go_enter Tryd.func83, Tryd.ntmps83
  go_wp2_with fail
  go_ret2
  exact ⟨rfl, rfl⟩
end Go.Proofs.YtaflpabpkpfifaaDoor
