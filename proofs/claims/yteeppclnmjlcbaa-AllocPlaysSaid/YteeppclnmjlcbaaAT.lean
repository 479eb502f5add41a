/- The walks over the reference of package alloc: Same. -/
import Derived.Test.YteeppclnmjlcbaaAS
import Derived.Deep.QuietTactic
import Derived.Laws.StructEq
import Derived.ChangeKeysEq
namespace Go.Proofs.Yteeppclnmjlcbaa
open Go.RowKit Go.Amb
set_option linter.unusedVariables false
theorem rows_at {w : World} {v : Value} {l : List (Nat × Nat)} (h : RowsAt w v l) : ∃ a c, v = .slice a l.length c ∧ l.length ≤ c ∧ c ≤ maxLen ∧ ∀ k, k < l.length → ∃ g off p, a = some ⟨g, off, none⟩ ∧ l[k]? = some p ∧ w.cell? ⟨g, off + k * 2, none⟩ = some (.int .i64 (p.1 : Int)) ∧
    w.cell? ⟨g, off + k * 2 + 1, none⟩ = some (.int .i64 (p.2 : Int)) := by
  obtain ⟨hl, a, c, rfl, h1, h2, h3⟩ := h
  refine ⟨a, c, rfl, h1, h2, fun k hk => ?_⟩
  rcases h3 with h3 | ⟨g, off, rfl, hc⟩
  · omega
  · obtain ⟨g0, g1⟩ := rc_get l k hk
    exact ⟨g, off, l[k], rfl, List.getElem?_eq_getElem hk, hc _ _ g0, by rw [Nat.add_assoc]; exact hc _ _ g1⟩
theorem same_step {la lb : List (Nat × Nat)} {i : Nat} {p q : Nat × Nat} (hp : la[i]? = some p) (hq : lb[i]? = some q) (h : la.drop i = lb.drop i ↔ la = lb) : (p = q → (la.drop (i + 1) = lb.drop (i + 1) ↔ la = lb)) ∧ (p ≠ q → ¬ la = lb) := by
  obtain ⟨h1, rfl⟩ := List.getElem?_eq_some_iff.1 hp
  obtain ⟨h2, rfl⟩ := List.getElem?_eq_some_iff.1 hq
  rw [List.drop_eq_getElem_cons h1, List.drop_eq_getElem_cons h2] at h
  refine ⟨fun e => ?_, fun e hl => ?_⟩
  · rw [e, ← List.drop_eq_getElem_cons h2] at h
    rw [← h]
    conv => rhs; rw [List.drop_eq_getElem_cons h2]
    exact ⟨fun h => by rw [h], fun h => by injection h⟩
  · exact e (by have := h.2 hl; injection this)
theorem row_guard (op : BinOp) (x y : Operand) (xs ys : Array Value) (w : World) : (eqGuard op 28 x y (.agg xs) (.agg ys)).run Try.prog w = .ok () w := run_eqGuard_agg w op 28 x y xs ys (by kernel_rfl)
theorem row_neq (p q : Nat × Nat) (w : World) : (binOp .neq 28 (.agg #[.int .i64 (p.1 : Int), .int .i64 (p.2 : Int)]) (.agg #[.int .i64 (q.1 : Int), .int .i64 (q.2 : Int)])).run Try.prog w = .ok (.bool (!decide (p = q))) w := by
  obtain ⟨i, hi⟩ : ∃ i, Try.prog.info? 3 = some i := ⟨_, rfl⟩
  have hc : Try.prog.cellsOf 3 = 1 := rfl
  rw [run_neq_struct, run_equalIn_array w 9999 _ _ Try.underlying28 hi, hc]
  obtain ⟨p1, p2⟩ := p
  obtain ⟨q1, q2⟩ := q
  simp [Op.eqItems, go_sem, List.range_succ]
  by_cases h1 : p1 = q1
  · by_cases h2 : p2 = q2
    · simp [h1, h2]
    · simp [h1, h2]; omega
  · simp [h1]; omega
set_option maxHeartbeats 2000000 in
theorem refSame (va vb : Value) (la lb : List (Nat × Nat)) (w : World) (ha : RowsAt w va la) (hb : RowsAt w vb lb) (hm : la.length < 9223372036854775808) : Calls Try.prog 13 #[va, vb] w (Ret (.bool (decide (la = lb))) w) := by
  obtain ⟨aa, ca, rfl, _, _, hca⟩ := rows_at ha
  obtain ⟨ab, cb, rfl, _, _, hcb⟩ := rows_at hb
  by_cases hl : la.length = lb.length
  · have hl' : (la.length : Int) = (lb.length : Int) := by omega
    replace hca := Lib.hid hca
    replace hcb := Lib.hid hcb
    clear ha hb
    replace hm := Lib.hid hm
    generalize hn1 : la.length = n at *
    have hn2 : lb.length = n := hl.symm
    rw [← hl]
    clear hl hl'
    go_enter Try.func13, Try.ntmps13
    go_wp2_with fail
    go_loopw [5] (fun iv wr => ∃ i : Nat, iv = .int .i64 (i : Int) ∧ i ≤ n ∧ (la.drop i = lb.drop i ↔ la = lb) ∧ Upd Non w wr) (fun iv _ => n - (intOf iv).toNat)
    case atStart => exact ⟨0, rfl, by omega, by simp, Upd.refl _ _⟩
    case round =>
      obtain ⟨i, rfl, hi, hd, hu⟩ := hrel
      by_cases hin : i < n
      · obtain ⟨g1, o1, p, rfl, hp, x1, x2⟩ := hca.out i hin
        obtain ⟨g2, o2, q, rfl, hq, y1, y2⟩ := hcb.out i (by omega)
        have x1 := hu.cell x1 fun h => h
        have x2 := hu.cell x2 fun h => h
        have y1 := hu.cell y1 fun h => h
        have y2 := hu.cell y2 fun h => h
        have hin' : (i : Int) < (n : Int) := by omega
        have hi0 : (0 : Int) ≤ (i : Int) := by omega
        have hmm : n < 9223372036854775808 := hm.out
        have hg := fun (x y : Operand) (xs ys : Array Value) (w : World) => row_guard .neq x y xs ys w
        have hqq := fun w => row_neq p q w
        obtain ⟨s1, s2⟩ := same_step hp hq hd
        clear hd
        by_cases hpq : p = q
        · have s1 := Lib.hid (s1 hpq)
          rw [show decide (p = q) = true by simpa using hpq] at hqq
          simp only [Bool.not_true] at hqq
          clear s2 hp hq
          clear hpq
          go_wp2_with fail
          go_quiet (fail)
          go_wp2_with fail
          go_roundw
          case rel => exact ⟨i + 1, by go_num, by omega, s1.out, hu.then_drewN _⟩
          case measure => simp [intOf]; omega
        · have s2 := Lib.hid (s2 hpq)
          rw [show decide (p = q) = false by simpa using hpq] at hqq
          simp only [Bool.not_false] at hqq
          clear s1 hp hq hpq
          go_wp2_with fail
          go_quiet (fail)
          go_wp2_with fail
          go_ret
          exact ⟨by rw [show decide (la = lb) = false by simpa using s2.out]; rfl, hu.then_drewN _⟩
      · obtain rfl : i = n := by omega
        have hin' : ¬ (i : Int) < (i : Int) := by omega
        have he : Hid (decide (la = lb) = true) := by
          show _ = _
          rw [List.drop_eq_nil_of_le (by omega), List.drop_eq_nil_of_le (by omega)] at hd
          simpa using hd
        clear hd
        go_wp2_with fail
        go_ret
        exact ⟨by rw [he.out]; rfl, hu⟩
  · have hne : ¬ la = lb := fun h => hl (by rw [h])
    have hne' : ((la.length : Int) != (lb.length : Int)) = true := by simp; omega
    clear hca hcb ha hb hm
    rw [show decide (la = lb) = false by simpa using hne]
    clear hne
    generalize la.length = n1 at *
    generalize lb.length = n2 at *
    go_enter Try.func13, Try.ntmps13
    go_wp2_with fail
    go_ret
    exact ⟨rfl, Upd.refl _ _⟩
end Go.Proofs.Yteeppclnmjlcbaa
