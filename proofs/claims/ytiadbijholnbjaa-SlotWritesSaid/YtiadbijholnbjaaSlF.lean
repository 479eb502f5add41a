/- The reference's SameSlots. -/
import Derived.Test.YtiadbijholnbjaaSlE
import Derived.Deep.QuietTactic
import Derived.Laws.StructEq
namespace Go.Amb
open Go.RowKit
theorem slots_at {w : World} {v : Value} {l : List S5} (h : SlotsAt w v l) : ∃ a c, v = .slice a l.length c ∧ l.length ≤ c ∧ c ≤ maxLen ∧ ∀ k, k < l.length → ∃ g off p, a = some ⟨g, off, none⟩ ∧ l[k]? = some p ∧ w.cell? ⟨g, off + k * 5, none⟩ = some (.int .i64 p.e) ∧
    w.cell? ⟨g, off + k * 5 + 1, none⟩ = some (.int .i64 p.q) ∧ w.cell? ⟨g, off + k * 5 + 2, none⟩ = some (.bool p.f) ∧ w.cell? ⟨g, off + k * 5 + 3, none⟩ = some (.bool p.l) ∧ w.cell? ⟨g, off + k * 5 + 4, none⟩ = some (.string ⟨p.d.toArray⟩) := by
  obtain ⟨hl, a, c, rfl, h1, h2, h3⟩ := h
  refine ⟨a, c, rfl, h1, h2, fun k hk => ?_⟩
  rcases h3 with h3 | ⟨g, off, rfl, hc⟩
  · omega
  · obtain ⟨g0, g1, g2, g3, g4⟩ := sc_get l k hk
    exact ⟨g, off, l[k], rfl, List.getElem?_eq_getElem hk, hc _ _ g0, by rw [Nat.add_assoc]; exact hc _ _ g1, by rw [Nat.add_assoc]; exact hc _ _ g2, by rw [Nat.add_assoc]; exact hc _ _ g3, by rw [Nat.add_assoc]; exact hc _ _ g4⟩
theorem same_step {α : Type} {la lb : List α} {i : Nat} {p q : α} (hp : la[i]? = some p) (hq : lb[i]? = some q) (h : la.drop i = lb.drop i ↔ la = lb) : (p = q → (la.drop (i + 1) = lb.drop (i + 1) ↔ la = lb)) ∧ (p ≠ q → ¬ la = lb) := by
  obtain ⟨h1, rfl⟩ := List.getElem?_eq_some_iff.1 hp
  obtain ⟨h2, rfl⟩ := List.getElem?_eq_some_iff.1 hq
  rw [List.drop_eq_getElem_cons h1, List.drop_eq_getElem_cons h2] at h
  refine ⟨fun e => ?_, fun e hl => ?_⟩
  · rw [e, ← List.drop_eq_getElem_cons h2] at h
    rw [← h]
    conv => rhs; rw [List.drop_eq_getElem_cons h2]
    exact ⟨fun h => by rw [h], fun h => by injection h⟩
  · exact e (by have := h.2 hl; injection this)
end Go.Amb
namespace Go.Proofs.Ytiadbijholnbjaa
open Go.RowKit Go.Amb Go.Shelf
set_option linter.unusedVariables false
set_option linter.unusedSimpArgs false
theorem fields_slot : (Try.prog.fieldsOf 41) = #[⟨ "Epoch", 3, 0, false, "", "", 0⟩, ⟨ "Seq", 3, 1, false, "", "", 8⟩, ⟨ "First", 4, 2, false, "", "", 16⟩, ⟨ "Last", 4, 3, false, "", "", 17⟩, ⟨ "Data", 9, 4, false, "", "", 24⟩] := by kernel_rfl
theorem slot_guard (op : BinOp) (x y : Operand) (xs ys : Array Value) (w : World) : (eqGuard op 41 x y (.agg xs) (.agg ys)).run Try.prog w = .ok () w := run_eqGuard_agg w op 41 x y xs ys (by kernel_rfl)
theorem beq_bytes (a b : List UInt8) : (ByteArray.toList ⟨a.toArray⟩ == ByteArray.toList ⟨b.toArray⟩) = decide (a = b) := by
  rw [← beq_toListBytes, Bool.eq_iff_iff]
  show (a.toArray == b.toArray) = true ↔ decide (a = b) = true
  simp
theorem slot_equal (p q : S5) (w : World) : (Op.equalIn 10000 41 (.agg #[.int .i64 p.e, .int .i64 p.q, .bool p.f, .bool p.l, .string ⟨p.d.toArray⟩]) (.agg #[.int .i64 q.e, .int .i64 q.q, .bool q.f, .bool q.l, .string ⟨q.d.toArray⟩])).run Try.prog w = .ok (decide (p = q)) w := by
  rw [run_equalIn_struct w 9999 41 _ _ (by kernel_rfl) (by kernel_rfl), fields_slot]
  obtain ⟨p1, p2, p3, p4, p5⟩ := p
  obtain ⟨q1, q2, q3, q4, q5⟩ := q
  have e1 := fun a b => run_equalIn_int (P := Try.prog) w 9998 3 .i64 .i64 a b Try.underlying3
  have e2 := fun a b => run_equalIn_bool' (P := Try.prog) w 9998 4 a b Try.underlying4
  have e3 := fun (a b : List UInt8) => run_equalIn_string (P := Try.prog) w 9998 9 (⟨a.toArray⟩) (⟨b.toArray⟩) Try.underlying9
  simp only [beq_bytes] at e3
  simp only [S5.mk.injEq]
  by_cases h1 : p1 = q1
  · by_cases h2 : p2 = q2
    · by_cases h3 : p3 = q3
      · by_cases h4 : p4 = q4
        · by_cases h5 : p5 = q5
          · subst h1 h2 h3 h4 h5; simp [Op.eqFields, go_sem, e1, e2, e3]
          · subst h1 h2 h3 h4; simp [Op.eqFields, go_sem, e1, e2, e3, h5]
        · subst h1 h2 h3; simp [Op.eqFields, go_sem, e1, e2, e3, h4]
      · subst h1 h2; simp [Op.eqFields, go_sem, e1, e2, e3, h3]
    · subst h1; simp [Op.eqFields, go_sem, e1, e2, e3, h2]
  · simp [Op.eqFields, go_sem, e1, e2, e3, h1]
theorem slot_neq (p q : S5) (w : World) : (binOp .neq 41 (.agg #[.int .i64 p.e, .int .i64 p.q, .bool p.f, .bool p.l, .string ⟨p.d.toArray⟩]) (.agg #[.int .i64 q.e, .int .i64 q.q, .bool q.f, .bool q.l, .string ⟨q.d.toArray⟩])).run Try.prog w = .ok (.bool (!decide (p = q))) w := by
  rw [run_neq_struct, slot_equal]; rfl
set_option maxHeartbeats 2000000 in
theorem refSameS (va vb : Value) (la lb : List S5) (w : World) (ha : SlotsAt w va la) (hb : SlotsAt w vb lb) (hm : la.length < 9223372036854775808) : Calls Try.prog 11 #[va, vb] w (Ret (.bool (decide (la = lb))) w) := by
  obtain ⟨aa, ca, rfl, _, _, hca⟩ := slots_at ha
  obtain ⟨ab, cb, rfl, _, _, hcb⟩ := slots_at hb
  by_cases hl : la.length = lb.length
  · have hl' : (la.length : Int) = (lb.length : Int) := by omega
    replace hca := Lib.hid hca
    replace hcb := Lib.hid hcb
    clear ha hb
    replace hm := Lib.hid hm
    generalize hn1 : la.length = n at *
    have hn2 : lb.length = n := hl.symm
    rw [← hl]
    clear hl hl'
    go_enter Try.func11, Try.ntmps11
    go_wp2_with fail
    go_loopw [5] (fun iv wr => ∃ i : Nat, iv = .int .i64 (i : Int) ∧ i ≤ n ∧ (la.drop i = lb.drop i ↔ la = lb) ∧ Upd Non w wr) (fun iv _ => n - (intOf iv).toNat)
    case atStart => exact ⟨0, rfl, by omega, by simp, Upd.refl _ _⟩
    case round =>
      obtain ⟨i, rfl, hi, hd, hu⟩ := hrel
      by_cases hin : i < n
      · obtain ⟨g1, o1, p, rfl, hp, x1, x2, x3, x4, x5⟩ := hca.out i hin
        obtain ⟨g2, o2, q, rfl, hq, y1, y2, y3, y4, y5⟩ := hcb.out i (by omega)
        have x1 := hu.cell x1 fun h => h
        have x2 := hu.cell x2 fun h => h
        have x3 := hu.cell x3 fun h => h
        have x4 := hu.cell x4 fun h => h
        have x5 := hu.cell x5 fun h => h
        have y1 := hu.cell y1 fun h => h
        have y2 := hu.cell y2 fun h => h
        have y3 := hu.cell y3 fun h => h
        have y4 := hu.cell y4 fun h => h
        have y5 := hu.cell y5 fun h => h
        have hin' : (i : Int) < (n : Int) := by omega
        have hi0 : (0 : Int) ≤ (i : Int) := by omega
        have hmm : n < 9223372036854775808 := hm.out
        have hg := fun (x y : Operand) (xs ys : Array Value) (w : World) => slot_guard .neq x y xs ys w
        have hqq := fun w => slot_neq p q w
        obtain ⟨s1, s2⟩ := same_step hp hq hd
        clear hd
        by_cases hpq : p = q
        · have s1 := Lib.hid (s1 hpq)
          rw [show decide (p = q) = true by simpa using hpq] at hqq
          simp only [Bool.not_true] at hqq
          clear s2 hp hq
          clear hpq
          go_wp2_with fail
          go_quiet (fail)
          go_wp2_with fail
          go_roundw
          case rel => exact ⟨i + 1, by go_num, by omega, s1.out, hu.then_drewN _⟩
          case measure => simp [intOf]; omega
        · have s2 := Lib.hid (s2 hpq)
          rw [show decide (p = q) = false by simpa using hpq] at hqq
          simp only [Bool.not_false] at hqq
          clear s1 hp hq hpq
          go_wp2_with fail
          go_quiet (fail)
          go_wp2_with fail
          go_ret
          exact ⟨by rw [show decide (la = lb) = false by simpa using s2.out]; rfl, hu.then_drewN _⟩
      · obtain rfl : i = n := by omega
        have hin' : ¬ (i : Int) < (i : Int) := by omega
        have he : Hid (decide (la = lb) = true) := by
          show _ = _
          rw [List.drop_eq_nil_of_le (by omega), List.drop_eq_nil_of_le (by omega)] at hd
          simpa using hd
        clear hd
        go_wp2_with fail
        go_ret
        exact ⟨by rw [he.out]; rfl, hu⟩
  · have hne : ¬ la = lb := fun h => hl (by rw [h])
    have hne' : ((la.length : Int) != (lb.length : Int)) = true := by simp; omega
    clear hca hcb ha hb hm
    rw [show decide (la = lb) = false by simpa using hne]
    clear hne
    generalize la.length = n1 at *
    generalize lb.length = n2 at *
    go_enter Try.func11, Try.ntmps11
    go_wp2_with fail
    go_ret
    exact ⟨rfl, Upd.refl _ _⟩
end Go.Proofs.Ytiadbijholnbjaa
