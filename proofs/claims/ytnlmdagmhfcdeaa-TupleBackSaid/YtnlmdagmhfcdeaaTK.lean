/- The walks over ambryref02.Same, tuple.Behind, ambrylaw02.few and begins. -/
import Derived.Test.YtnlmdagmhfcdeaaTC
import Derived.Laws.StructEq
namespace Go.Proofs.Ytnlmdagmhfcdeaa
open Go.RowKit Go.Amb
set_option linter.unusedVariables false
attribute [local go_sem ↓] Go.wp_at_zero Go.wp_at_succ

theorem lfew (a : Option Addr) (n c : Nat) (w : World) : Calls Try.prog 13 #[.slice a n c] w fun e w' => e = .returned (.bool (decide ((n : Int) ≤ 1000))) ∧ w = w' := by
  go_enter Try.func13, Try.ntmps13
  go_wp2_with fail
  go_ret
  exact ⟨by simp, rfl⟩

theorem part_eqGuard (op : BinOp) (x y : Operand) (xs ys : Array Value) (w : World) : (eqGuard op 46 x y (.agg xs) (.agg ys)).run Try.prog w = .ok () w := run_eqGuard_agg w op 46 x y xs ys (by kernel_rfl)
theorem part_eql (p q : Part) (w : World) : (binOp .eql 46 (pV p) (pV q)).run Try.prog w = .ok (.bool (decide (p = q))) w := by
  have hs : Program.stoodInHeld Try.prog 46 = false := by kernel_rfl
  rw [run_eql_struct, run_equalIn_agg w 9999 46 _ _ (by kernel_rfl) hs]
  obtain ⟨pk, pn, ps⟩ := p
  obtain ⟨qk, qn, qs⟩ := q
  simp only [Program.fieldsOf, Try.underlying46]
  simp [Op.eqFields, go_sem]
  by_cases h1 : pk = qk
  · by_cases h2 : pn = qn
    · by_cases h3 : ps = qs <;> simp [h1, h2, h3]
    · simp [h1, h2]
  · simp [h1]
theorem part_neq (p q : Part) (w : World) : (binOp .neq 46 (pV p) (pV q)).run Try.prog w = .ok (.bool (!decide (p = q))) w := by
  have hs : Program.stoodInHeld Try.prog 46 = false := by kernel_rfl
  rw [run_neq_struct, run_equalIn_agg w 9999 46 _ _ (by kernel_rfl) hs]
  obtain ⟨pk, pn, ps⟩ := p
  obtain ⟨qk, qn, qs⟩ := q
  simp only [Program.fieldsOf, Try.underlying46]
  simp [Op.eqFields, go_sem]
  by_cases h1 : pk = qk
  · by_cases h2 : pn = qn
    · by_cases h3 : ps = qs <;> simp [h1, h2, h3]
    · simp [h1, h2]
  · simp [h1]

theorem tBehind (s : List UInt8) (w : World) (hs : s.length ≤ 1000) : Calls Try.prog 18 #[.string ⟨s.toArray⟩] w fun e w' => e = .returned (.string ⟨(s ++ [255]).toArray⟩) ∧ w = w' := by
  have h : s.length + 1 ≤ 9223372036854775807 := by omega
  go_enter Try.func18, Try.ntmps18
  go_wp2_with fail
  go_ret
  exact ⟨congrArg (fun b => Ending.returned (.string b)) (ByteArray.mk_append_mk s [255]), rfl⟩

set_option maxHeartbeats 1000000 in
theorem rSame (va vb : Value) (a b : List Part) (w : World) (hA : Parts w va a) (hB : Parts w vb b) :
    Calls Try.prog 22 #[va, vb] w (Ret (.bool (decide (a = b))) w) := by
  obtain ⟨aa, ac, rfl, halc, hac, hacell⟩ := parts_at hA
  obtain ⟨ba, bc', rfl, hblc, hbc, hbcell⟩ := parts_at hB
  have hmxa := hac
  have hmxb := hbc
  unfold maxLen at hmxa hmxb
  replace hacell := Lib.hid hacell
  replace hbcell := Lib.hid hbcell
  by_cases hl : a.length = b.length
  · have hl' : ((a.length : Int) == (b.length : Int)) = true := by simp [hl]
    replace hl := Lib.hid hl
    go_enter Try.func22, Try.ntmps22
    go_wp2_with fail
    go_loopw [5] (fun i wr => ∃ k : Nat, k ≤ a.length ∧ i = .int .i64 k ∧ a.take k = b.take k ∧ Upd Non w wr) (fun i _ => a.length - (intOf i).toNat)
    case atStart => exact ⟨0, by omega, rfl, rfl, Upd.refl _ _⟩
    case round =>
      obtain ⟨k, hk, rfl, hc, hu⟩ := hrel
      replace hc := Lib.hid hc
      by_cases hlt : k < a.length
      · have hltb : k < b.length := by have := hl.out; omega
        obtain ⟨g, off, rfl, c0, c1, c2⟩ := hacell.out k hlt
        obtain ⟨g', off', rfl, d0, d1, d2⟩ := hbcell.out k hltb
        replace c0 := hu.cell c0 fun h => h
        replace c1 := hu.cell c1 fun h => h
        replace c2 := hu.cell c2 fun h => h
        replace d0 := hu.cell d0 fun h => h
        replace d1 := hu.cell d1 fun h => h
        replace d2 := hu.cell d2 fun h => h
        have ta := Lib.hid (take_snoc a k hlt)
        have tb := Lib.hid (take_snoc b k hltb)
        have hne : a[k] ≠ b[k] → decide (a = b) = false := by
          intro h
          simp only [decide_eq_false_iff_not]
          rintro rfl
          exact h rfl
        replace hne := Lib.hid hne
        generalize a[k] = p at *
        generalize b[k] = q at *
        have l1' : (k : Int) < a.length := by omega
        have l2' : (k : Int) < b.length := by omega
        have hg := fun (x y : Operand) (xs ys : Array Value) (w : World) => part_eqGuard .neq x y xs ys w
        have hq := fun w => part_neq p q w
        by_cases hpq : p = q
        · subst hpq
          simp only [decide_true, Bool.not_true] at hq
          go_wp2_with fail
          go_quiet (fail)
          go_wp2_with fail
          go_roundw
          case rel => exact ⟨k + 1, by omega, by go_num, by rw [ta.out, tb.out, hc.out], hu.then_drewN _⟩
          case measure => simp [intOf]; omega
        · have hne := hne.out hpq
          simp only [hpq, decide_false, Bool.not_false] at hq
          rw [hne]
          clear hpq
          go_wp2_with fail
          go_quiet (fail)
          go_wp2_with fail
          go_ret
          exact ⟨rfl, hu.then_drewN _⟩
      · obtain rfl : k = a.length := by omega
        have he : decide (a = b) = true := by
          have := hc.out
          rw [List.take_length, List.take_of_length_le (by have := hl.out; omega)] at this
          simpa using this
        replace he := Lib.hid he
        go_wp2_with fail
        go_ret
        exact ⟨by rw [he.out]; rfl, hu⟩
  · have hl' : ((a.length : Int) == (b.length : Int)) = false := by simp only [beq_eq_false_iff_ne, ne_eq]; omega
    have he : decide (a = b) = false := by
      simp only [decide_eq_false_iff_not]
      rintro rfl
      exact hl rfl
    rw [he]
    go_enter Try.func22, Try.ntmps22
    go_wp2_with fail
    go_ret
    exact ⟨rfl, Upd.refl _ _⟩
end Go.Proofs.Ytnlmdagmhfcdeaa
