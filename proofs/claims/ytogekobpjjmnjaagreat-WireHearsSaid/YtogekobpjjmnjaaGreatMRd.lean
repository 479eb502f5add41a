/- The walks over the readers of package field, and over the reference's. -/
import Derived.Test.YtogekobpjjmnjaaGreatMRefA
namespace Go.Proofs.YtogekobpjjmnjaaGreat
set_option maxRecDepth 100000
open Go.RowKit Go.Amb
attribute [local go_sem ↓] Go.wp_at_zero Go.wp_at_succ

abbrev rdV (s : List UInt8) (a : Nat) (e : Int) : Value := .agg #[.string ⟨s.toArray⟩, .int .i64 a, .int .i64 e]


/-- A reader's next number. -/
def rdNum (s : List UInt8) (a : Nat) (e : Int) (m : Nat) : Nat × Int × Int :=
  if e = 0 then (if a + m ≤ s.length then (a + m, 0, wrap64 (numL ((s.drop a).take m))) else (a, 3, 0)) else (a, e, 0)
theorem rdNum_ok {s : List UInt8} {a m : Nat} (h : a + m ≤ s.length) : rdNum s a 0 m = (a + m, 0, wrap64 (numL ((s.drop a).take m))) := by simp [rdNum, h]
theorem rdNum_short {s : List UInt8} {a m : Nat} (h : ¬ a + m ≤ s.length) : rdNum s a 0 m = (a, 3, 0) := by simp [rdNum, h]
theorem rdNum_err {s : List UInt8} {a m : Nat} {e : Int} (h : ¬ e = 0) : rdNum s a e m = (a, e, 0) := by simp [rdNum, h]


/-- A reader's next text. -/
def rdText (s : List UInt8) (a : Nat) (e : Int) (most : Int) : Nat × Int × List UInt8 :=
  if e = 0 then (if a + 4 ≤ s.length then
      (if numL ((s.drop a).take 4) ≤ max 0 most then
        (if numL ((s.drop a).take 4) ≤ (s.length : Int) - (a + 4) then (a + 4 + (numL ((s.drop a).take 4)).toNat, 0, (s.drop (a + 4)).take (numL ((s.drop a).take 4)).toNat) else (a, 3, []))
       else (a, 5, [])) else (a, 3, [])) else (a, e, [])
theorem rdText_err {s : List UInt8} {a : Nat} {e most : Int} (h : ¬ e = 0) : rdText s a e most = (a, e, []) := by simp [rdText, h]
theorem rdText_head {s : List UInt8} {a : Nat} {most : Int} (h : ¬ a + 4 ≤ s.length) : rdText s a 0 most = (a, 3, []) := by simp [rdText, h]
theorem rdText_big {s : List UInt8} {a : Nat} {most : Int} (h : a + 4 ≤ s.length) (h2 : max 0 most < numL ((s.drop a).take 4)) : rdText s a 0 most = (a, 5, []) := by
  unfold rdText; rw [if_pos rfl, if_pos h, if_neg (by omega)]
theorem rdText_short {s : List UInt8} {a : Nat} {most : Int} (h : a + 4 ≤ s.length) (h2 : numL ((s.drop a).take 4) ≤ max 0 most) (h3 : (s.length : Int) - (a + 4) < numL ((s.drop a).take 4)) : rdText s a 0 most = (a, 3, []) := by
  unfold rdText; rw [if_pos rfl, if_pos h, if_pos h2, if_neg (by omega)]
theorem rdText_ok {s : List UInt8} {a : Nat} {most : Int} (h : a + 4 ≤ s.length) (h2 : numL ((s.drop a).take 4) ≤ max 0 most) (h3 : numL ((s.drop a).take 4) ≤ (s.length : Int) - (a + 4)) :
    rdText s a 0 most = (a + 4 + (numL ((s.drop a).take 4)).toNat, 0, (s.drop (a + 4)).take (numL ((s.drop a).take 4)).toNat) := by
  unfold rdText; rw [if_pos rfl, if_pos h, if_pos h2, if_pos h3]


end Go.Proofs.YtogekobpjjmnjaaGreat

namespace Go.Proofs.YtogekobpjjmnjaaGreat
set_option maxRecDepth 100000
open Go.RowKit Go.Amb
attribute [local go_sem ↓] Go.wp_at_zero Go.wp_at_succ

theorem max0_pos {most : Int} (h : 0 < most) : max 0 most = most := by omega
theorem max0_neg {most : Int} (h : ¬ 0 < most) : max 0 most = 0 := by omega
/-- The number of the four bytes ahead: what the walk wants to know of it. -/
theorem num4 (s : List UInt8) (a : Nat) (h : a + 4 ≤ s.length) : ∃ z : Nat, numL ((s.drop a).take 4) = z ∧ z < 4294967296 ∧ rdNum s a 0 4 = (a + 4, 0, (z : Int)) := by
  have hq0 := numL_nonneg ((s.drop a).take 4)
  have hq1 := numL_lt_of (l := (s.drop a).take 4) (m := 4) (by simp; omega)
  simp only [Int.reducePow] at hq1
  obtain ⟨z, hz⟩ := Int.eq_ofNat_of_zero_le hq0
  refine ⟨z, hz, by omega, ?_⟩
  rw [rdNum_ok h, hz, IntWalk.wrap64_in _ ⟨by omega, by omega⟩]

end Go.Proofs.YtogekobpjjmnjaaGreat
