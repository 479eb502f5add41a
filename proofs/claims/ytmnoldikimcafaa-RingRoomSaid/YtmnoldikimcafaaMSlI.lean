/- ambrylaw05.lives. -/
import Derived.Test.YtmnoldikimcafaaMSlH
namespace Go.Proofs.Ytmnoldikimcafaa
open Go.RowKit Go.Amb Go.Shelf
set_option linter.unusedVariables false
set_option linter.unusedSimpArgs false
set_option maxRecDepth 100000
/-- 'make([]T, m)', the element of one cell. -/
theorem run_make1 {t e : TypeId} {z : Value} {bytes : Nat} (ht : Try.prog.underlying t = some (.slice e)) (hinfo : (Try.prog.info? e).map (fun i => (i.zero, i.size, i.bytes)) = some (some z, 1, bytes)) (hz : z.cells = #[z]) (m : Nat) (hm : m ≤ 9223372036854775807) (hb : bytes * m ≤ 281474976710656) (w : World) :
    (Instr.makeSlice t (.int .i64 (m : Int)) (.int .i64 (m : Int))).run Try.prog w = .ok (.slice (some ⟨w.heap.size, 0, none⟩) m m) (w.alloc (.cells (Array.replicate m z) e)) := by
  obtain ⟨i, hi, hz0, hsz, hby⟩ := info_parts hinfo
  have hb2 : (i.bytes : Int) * (m : Int) ≤ 281474976710656 := by
    have h1 : ((bytes * m : Nat) : Int) ≤ 281474976710656 := by omega
    rw [hby]
    rwa [Int.natCast_mul] at h1
  have hr := run_make (P := Try.prog) w t e i z ht hi hz0 .i64 .i64 (m : Int) (m : Int) (by omega) (by omega) hb2 (by omega)
  rw [hr, hsz, hz]
  simp only [Int.toNat_natCast, Nat.mul_one]
  congr 3
  apply Array.ext_getElem?
  intro k
  simp only [madeCells, Array.getElem?_map, Array.getElem?_range, Array.getElem?_replicate]
  by_cases hk : k < m <;> simp [hk, Nat.mod_one]
theorem fields_rec : (Try.prog.fieldsOf 65) = #[⟨ "Seq", 3, 0, false, "", "", 0⟩, ⟨ "Next", 3, 1, false, "", "", 8⟩, ⟨ "Data", 9, 2, false, "", "", 16⟩] := by kernel_rfl
theorem rec_guard (op : BinOp) (x y : Operand) (xs ys : Array Value) (w : World) : (eqGuard op 65 x y (.agg xs) (.agg ys)).run Try.prog w = .ok () w := run_eqGuard_agg w op 65 x y xs ys (by kernel_rfl)
theorem rec_equal (p q : R3) (w : World) : (Op.equalIn 10000 65 (.agg #[.int .i64 p.s, .int .i64 p.n, .string ⟨p.d.toArray⟩]) (.agg #[.int .i64 q.s, .int .i64 q.n, .string ⟨q.d.toArray⟩])).run Try.prog w = .ok (decide (p = q)) w := by
  rw [run_equalIn_struct w 9999 65 _ _ (by kernel_rfl) (by kernel_rfl), fields_rec]
  obtain ⟨p1, p2, p3⟩ := p
  obtain ⟨q1, q2, q3⟩ := q
  have e1 := fun a b => run_equalIn_int (P := Try.prog) w 9998 3 .i64 .i64 a b Try.underlying3
  have e3 := fun (a b : List UInt8) => run_equalIn_string (P := Try.prog) w 9998 9 (⟨a.toArray⟩) (⟨b.toArray⟩) Try.underlying9
  simp only [beq_bytes] at e3
  simp only [R3.mk.injEq]
  by_cases h1 : p1 = q1
  · by_cases h2 : p2 = q2
    · by_cases h5 : p3 = q3
      · subst h1 h2 h5; simp [Op.eqFields, go_sem, e1, e3]
      · subst h1 h2; simp [Op.eqFields, go_sem, e1, e3, h5]
    · subst h1; simp [Op.eqFields, go_sem, e1, e3, h2]
  · simp [Op.eqFields, go_sem, e1, e3, h1]
theorem bc_rep (m : Nat) : (bc (List.replicate m 0)).toArray = Array.replicate m (.int .u8 0) := by
  unfold bc; rw [List.map_replicate, List.toArray_replicate]; rfl
theorem cut_a : cutS 1 5 [] = [⟨1, 5, true, true, []⟩] := by decide
theorem ok_a : cutOk 1 5 [] := by unfold cutOk; decide
set_option maxRecDepth 100000
theorem cut_b : cutS 1 6 (List.replicate 109 0) = [⟨1, 6, true, false, List.replicate 108 0⟩, ⟨1, 7, false, true, [0]⟩] := by decide
theorem ok_b : cutOk 1 6 (List.replicate 109 0) := by unfold cutOk; decide
theorem join_ab : joinS [⟨1, 5, true, true, []⟩, ⟨1, 6, true, false, List.replicate 108 0⟩] = ⟨[⟨5, 6, []⟩], 6, List.replicate 108 0, 6⟩ := by
  rfl
end Go.Proofs.Ytmnoldikimcafaa
