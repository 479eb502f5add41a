/- The walks over the readers of package field, and over the reference's. -/
import Derived.Test.YtaflpabpkpfifaaDoorMRefN
namespace Go.Proofs.YtaflpabpkpfifaaDoor
set_option maxRecDepth 100000
open Go.RowKit Go.Amb
attribute [local go_sem ↓] Go.wp_at_zero Go.wp_at_succ

abbrev rdV (s : List UInt8) (a : Nat) (e : Int) : Value := .agg #[.string ⟨s.toArray⟩, .int .i64 a, .int .i64 e]


/-- A reader's next number. -/
def rdNum (s : List UInt8) (a : Nat) (e : Int) (m : Nat) : Nat × Int × Int :=
  if e = 0 then (if a + m ≤ s.length then (a + m, 0, wrap64 (numL ((s.drop a).take m))) else (a, 3, 0)) else (a, e, 0)
theorem rdNum_ok {s : List UInt8} {a m : Nat} (h : a + m ≤ s.length) : rdNum s a 0 m = (a + m, 0, wrap64 (numL ((s.drop a).take m))) := by simp [rdNum, h]
theorem rdNum_short {s : List UInt8} {a m : Nat} (h : ¬ a + m ≤ s.length) : rdNum s a 0 m = (a, 3, 0) := by simp [rdNum, h]
theorem rdNum_err {s : List UInt8} {a m : Nat} {e : Int} (h : ¬ e = 0) : rdNum s a e m = (a, e, 0) := by simp [rdNum, h]


/-- A reader's next text. -/
def rdText (s : List UInt8) (a : Nat) (e : Int) (most : Int) : Nat × Int × List UInt8 :=
  if e = 0 then (if a + 4 ≤ s.length then
      (if numL ((s.drop a).take 4) ≤ max 0 most then
        (if numL ((s.drop a).take 4) ≤ (s.length : Int) - (a + 4) then (a + 4 + (numL ((s.drop a).take 4)).toNat, 0, (s.drop (a + 4)).take (numL ((s.drop a).take 4)).toNat) else (a, 3, []))
       else (a, 5, [])) else (a, 3, [])) else (a, e, [])
theorem rdText_err {s : List UInt8} {a : Nat} {e most : Int} (h : ¬ e = 0) : rdText s a e most = (a, e, []) := by simp [rdText, h]
theorem rdText_head {s : List UInt8} {a : Nat} {most : Int} (h : ¬ a + 4 ≤ s.length) : rdText s a 0 most = (a, 3, []) := by simp [rdText, h]
theorem rdText_big {s : List UInt8} {a : Nat} {most : Int} (h : a + 4 ≤ s.length) (h2 : max 0 most < numL ((s.drop a).take 4)) : rdText s a 0 most = (a, 5, []) := by
  unfold rdText; rw [if_pos rfl, if_pos h, if_neg (by omega)]
theorem rdText_short {s : List UInt8} {a : Nat} {most : Int} (h : a + 4 ≤ s.length) (h2 : numL ((s.drop a).take 4) ≤ max 0 most) (h3 : (s.length : Int) - (a + 4) < numL ((s.drop a).take 4)) : rdText s a 0 most = (a, 3, []) := by
  unfold rdText; rw [if_pos rfl, if_pos h, if_pos h2, if_neg (by omega)]
theorem rdText_ok {s : List UInt8} {a : Nat} {most : Int} (h : a + 4 ≤ s.length) (h2 : numL ((s.drop a).take 4) ≤ max 0 most) (h3 : numL ((s.drop a).take 4) ≤ (s.length : Int) - (a + 4)) :
    rdText s a 0 most = (a + 4 + (numL ((s.drop a).take 4)).toNat, 0, (s.drop (a + 4)).take (numL ((s.drop a).take 4)).toNat) := by
  unfold rdText; rw [if_pos rfl, if_pos h, if_pos h2, if_pos h3]


end Go.Proofs.YtaflpabpkpfifaaDoor

namespace Go.Proofs.YtaflpabpkpfifaaDoor
set_option maxRecDepth 100000
open Go.RowKit Go.Amb
attribute [local go_sem ↓] Go.wp_at_zero Go.wp_at_succ

theorem max0_pos {most : Int} (h : 0 < most) : max 0 most = most := by omega
theorem max0_neg {most : Int} (h : ¬ 0 < most) : max 0 most = 0 := by omega
/-- The number of the four bytes ahead: what the walk wants to know of it. -/
theorem num4 (s : List UInt8) (a : Nat) (h : a + 4 ≤ s.length) : ∃ z : Nat, numL ((s.drop a).take 4) = z ∧ z < 4294967296 ∧ rdNum s a 0 4 = (a + 4, 0, (z : Int)) := by
  have hq0 := numL_nonneg ((s.drop a).take 4)
  have hq1 := numL_lt_of (l := (s.drop a).take 4) (m := 4) (by simp; omega)
  simp only [Int.reducePow] at hq1
  obtain ⟨z, hz⟩ := Int.eq_ofNat_of_zero_le hq0
  refine ⟨z, hz, by omega, ?_⟩
  rw [rdNum_ok h, hz, IntWalk.wrap64_in _ ⟨by omega, by omega⟩]

end Go.Proofs.YtaflpabpkpfifaaDoor

namespace Go.Proofs.YtaflpabpkpfifaaDoor
set_option maxRecDepth 100000
open Go.RowKit Go.Amb
set_option linter.unusedVariables false
variable {L : Nat}
attribute [local go_sem ↓] Go.wp_at_zero Go.wp_at_succ

/-- 'End' of the reference's reader. -/
def rdEnd (s : List UInt8) (a : Nat) (e : Int) : Int := if e = 0 then (if a < s.length then 5 else 0) else e
/-- A reader of package field in memory: it has s, stands at a, its error is e. -/
structure RdAt (w : World) (r L : Nat) (s : List UInt8) (a : Nat) (e : Int) : Prop where
  len : s.length ≤ 140737488355328
  le : a ≤ s.length
  ex : ∃ bv, w.heap[r]? = some (.cells #[.bool true, bv, .int .i64 a, .int .i64 e] 114 (0, 0)) ∧ Bytes w bv s ∧ (∀ k, At bv k → L ≤ k ∧ k < r) ∧ L ≤ r
/-- The bytes of a value that reads so, where there are any. -/
theorem bytes_at {w : World} {v : Value} {s : List UInt8} (h : Bytes w v s) (hs : 0 < s.length) : ∃ g off cap, v = .slice (some ⟨g, off, none⟩) s.length cap ∧ s.length ≤ cap ∧ cap ≤ maxLen ∧ ∀ j (hj : j < s.length), w.cell? ⟨g, off + j, none⟩ = some (.int .u8 (s[j].toNat : Int)) := by
  obtain ⟨hl, a, c, rfl, h1, h2, h3⟩ := h
  rcases h3 with h3 | ⟨g, off, rfl, hc⟩
  · omega
  · exact ⟨g, off, c, rfl, h1, h2, fun j hj => hc j _ ((bc_get s j _).2 ⟨hj, rfl⟩)⟩

set_option maxHeartbeats 800000 in
theorem fNumber_ok (r g off cap : Nat) (s : List UInt8) (a m : Nat) (e : Int) (w : World) (hr : w.heap[r]? = some (.cells #[.bool true, .slice (some ⟨g, off, none⟩) s.length cap, .int .i64 a, .int .i64 e] 114 (0, 0)))
    (hcap : s.length ≤ cap) (hm : cap ≤ maxLen) (hc : ∀ j (hj : j < s.length), w.cell? ⟨g, off + j, none⟩ = some (.int .u8 (s[j].toNat : Int))) (hs : s.length ≤ 140737488355328) (h : a + m ≤ s.length) (h1 : 1 ≤ m) (h8 : m ≤ 8) :
    Calls Tryd.prog 83 #[.pointer (some ⟨r, 0, none⟩), .int .i64 a, .int .i64 m] w fun e w' => e = .returned (.tuple #[.int .u64 (numL ((s.drop a).take m)), .bool true]) ∧ w = w' := by
  obtain ⟨c, f⟩ := cells_of hr
  clear f hr
  have hne : ¬ cap = a := by omega
  have hi : IntKind.i64.wrap ((a : Int) + (m : Int)) = (a : Int) + m := IntWalk.i64_in _ ⟨by omega, by omega⟩
  have hb1 : (a : Int) ≤ (a : Int) + m := by omega
  have hb2 : (a : Int) + m ≤ (cap : Int) := by omega
  replace hc := Lib.hid hc
  unfold maxLen at hm
  go_enter Tryd.func83, Tryd.ntmps83
  go_wp2_with fail
  go_loop [8, 10, 30] (fun u _ i => ∃ k : Nat, k ≤ m ∧ i = .int .i64 k ∧ u = .int .u64 (numL ((s.drop a).take k))) (fun _ _ i => m - (intOf i).toNat)
  case atStart => exact ⟨0, by omega, rfl, rfl⟩
  case round =>
    obtain ⟨k, hk, rfl, rfl⟩ := hrel
    by_cases hlt : k < m
    · have hck := hc.out (a + k) (by omega)
      rw [← Nat.add_assoc] at hck
      have hlt' : (k : Int) < m := by omega
      go_wp2_with fail
      go_round
      case rel =>
        refine ⟨k + 1, by omega, by go_num, ?_⟩
        rw [num_step _ _ (numL_nonneg _) (numL_lt_of (by simp; omega)), take_drop_succ s a k (by omega), numL_snoc]
      case measure => simp [intOf]; omega
    · obtain rfl : k = m := by omega
      go_wp2_with fail
      go_ret2
      exact ⟨rfl, rfl⟩

set_option maxHeartbeats 800000 in
theorem fNumber_short (r : Nat) (bv : Value) (s : List UInt8) (a m : Nat) (e : Int) (w : World) (hr : w.heap[r]? = some (.cells #[.bool true, bv, .int .i64 a, .int .i64 e] 114 (0, 0))) (hB : Bytes w bv s)
    (ha : a ≤ s.length) (hs : s.length ≤ 140737488355328) (h : ¬ a + m ≤ s.length) :
    Calls Tryd.prog 83 #[.pointer (some ⟨r, 0, none⟩), .int .i64 a, .int .i64 m] w fun e w' => e = .returned (.tuple #[.int .u64 0, .bool false]) ∧ w = w' := by
  obtain ⟨c, f⟩ := cells_of hr
  obtain ⟨hl, av, cv, rfl, h1, h2, h3⟩ := hB
  clear f hr h3 hl
  have hlt : (s.length : Int) - a < m := by omega
  go_enter Tryd.func83, Tryd.ntmps83
  go_wp2_with fail
  go_ret2
  exact ⟨rfl, rfl⟩
end Go.Proofs.YtaflpabpkpfifaaDoor
