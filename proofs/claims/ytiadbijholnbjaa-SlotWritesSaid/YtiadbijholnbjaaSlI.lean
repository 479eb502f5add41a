/- ambrylaw05.lives. -/
import Derived.Test.YtiadbijholnbjaaSlH
namespace Go.Proofs.Ytiadbijholnbjaa
open Go.RowKit Go.Amb Go.Shelf
set_option linter.unusedVariables false
set_option linter.unusedSimpArgs false
/-- 'make([]T, m)', the element of one cell. -/
theorem run_make1 {t e : TypeId} {z : Value} {bytes : Nat} (ht : Try.prog.underlying t = some (.slice e)) (hinfo : (Try.prog.info? e).map (fun i => (i.zero, i.size, i.bytes)) = some (some z, 1, bytes)) (hz : z.cells = #[z]) (m : Nat) (hm : m ≤ 9223372036854775807) (hb : bytes * m ≤ 281474976710656) (w : World) :
    (Instr.makeSlice t (.int .i64 (m : Int)) (.int .i64 (m : Int))).run Try.prog w = .ok (.slice (some ⟨w.heap.size, 0, none⟩) m m) (w.alloc (.cells (Array.replicate m z) e)) := by
  obtain ⟨i, hi, hz0, hsz, hby⟩ := info_parts hinfo
  have hb2 : (i.bytes : Int) * (m : Int) ≤ 281474976710656 := by
    have h1 : ((bytes * m : Nat) : Int) ≤ 281474976710656 := by omega
    rw [hby]
    rwa [Int.natCast_mul] at h1
  have hr := run_make (P := Try.prog) w t e i z ht hi hz0 .i64 .i64 (m : Int) (m : Int) (by omega) (by omega) hb2 (by omega)
  rw [hr, hsz, hz]
  simp only [Int.toNat_natCast, Nat.mul_one]
  congr 3
  apply Array.ext_getElem?
  intro k
  simp only [madeCells, Array.getElem?_map, Array.getElem?_range, Array.getElem?_replicate]
  by_cases hk : k < m <;> simp [hk, Nat.mod_one]
theorem fields_rec : (Try.prog.fieldsOf 37) = #[⟨ "Seq", 3, 0, false, "", "", 0⟩, ⟨ "Next", 3, 1, false, "", "", 8⟩, ⟨ "Data", 9, 2, false, "", "", 16⟩] := by kernel_rfl
theorem rec_guard (op : BinOp) (x y : Operand) (xs ys : Array Value) (w : World) : (eqGuard op 37 x y (.agg xs) (.agg ys)).run Try.prog w = .ok () w := run_eqGuard_agg w op 37 x y xs ys (by kernel_rfl)
theorem rec_equal (p q : R3) (w : World) : (Op.equalIn 10000 37 (.agg #[.int .i64 p.s, .int .i64 p.n, .string ⟨p.d.toArray⟩]) (.agg #[.int .i64 q.s, .int .i64 q.n, .string ⟨q.d.toArray⟩])).run Try.prog w = .ok (decide (p = q)) w := by
  rw [run_equalIn_struct w 9999 37 _ _ (by kernel_rfl) (by kernel_rfl), fields_rec]
  obtain ⟨p1, p2, p3⟩ := p
  obtain ⟨q1, q2, q3⟩ := q
  have e1 := fun a b => run_equalIn_int (P := Try.prog) w 9998 3 .i64 .i64 a b Try.underlying3
  have e3 := fun (a b : List UInt8) => run_equalIn_string (P := Try.prog) w 9998 9 (⟨a.toArray⟩) (⟨b.toArray⟩) Try.underlying9
  simp only [beq_bytes] at e3
  simp only [R3.mk.injEq]
  by_cases h1 : p1 = q1
  · by_cases h2 : p2 = q2
    · by_cases h5 : p3 = q3
      · subst h1 h2 h5; simp [Op.eqFields, go_sem, e1, e3]
      · subst h1 h2; simp [Op.eqFields, go_sem, e1, e3, h5]
    · subst h1; simp [Op.eqFields, go_sem, e1, e3, h2]
  · simp [Op.eqFields, go_sem, e1, e3, h1]
theorem bc_rep (m : Nat) : (bc (List.replicate m 0)).toArray = Array.replicate m (.int .u8 0) := by
  unfold bc; rw [List.map_replicate, List.toArray_replicate]; rfl
theorem cut_a : cutS 1 5 [] = [⟨1, 5, true, true, []⟩] := by decide
theorem ok_a : cutOk 1 5 [] := by unfold cutOk; decide
set_option maxRecDepth 100000
theorem cut_b : cutS 1 6 (List.replicate 109 0) = [⟨1, 6, true, false, List.replicate 108 0⟩, ⟨1, 7, false, true, [0]⟩] := by decide
theorem ok_b : cutOk 1 6 (List.replicate 109 0) := by unfold cutOk; decide
theorem join_ab : joinS [⟨1, 5, true, true, []⟩, ⟨1, 6, true, false, List.replicate 108 0⟩] = ⟨[⟨5, 6, []⟩], 6, List.replicate 108 0, 6⟩ := by
  rfl
set_option maxHeartbeats 4000000 in
theorem lives05 (w : World) : Calls Try.prog 12 #[] w (Ret (.bool true) w) := by
  have hca := Lib.hid (fun w => lCut [] 1 5 w)
  go_enter Try.func12, Try.ntmps12
  go_wp2_with fail
  refine (hca.out _).mono ?_
  rintro e w1 (⟨-, v1, rfl, ho1, hu1⟩ | ⟨hno, -⟩)
  · rw [cut_a] at ho1
    obtain ⟨g1, c1, rfl, hg1, hg1l, hc1⟩ := own_rowform ho1 (by decide)
    have x0 := ho1.cells (g := g1) rfl 0 _ rfl
    have x1 := ho1.cells (g := g1) rfl 1 _ rfl
    have x2 := ho1.cells (g := g1) rfl 2 _ rfl
    have x3 := ho1.cells (g := g1) rfl 3 _ rfl
    have x4 := ho1.cells (g := g1) rfl 4 _ rfl
    rw [Addr.add_lit, Nat.zero_add] at x0 x1 x2 x3 x4
    have hmk : (Instr.makeSlice 42 (.int .i64 109) (.int .i64 109)).run Try.prog w1 = .ok (.slice (some ⟨w1.heap.size, 0, none⟩) 109 109) (w1.alloc (.cells (Array.replicate 109 (.int .u8 0)) 5)) := run_make1 Try.underlying42 (show (Try.prog.info? 5).map (fun i => (i.zero, i.size, i.bytes)) = some (some (.int .u8 0), 1, 1) from rfl) rfl 109 (by omega) (by omega) w1
    have hby : Bytes (w1.alloc (.cells (Array.replicate 109 (.int .u8 0)) 5)) (.slice (some ⟨w1.heap.size, 0, none⟩) 109 109) (List.replicate 109 0) := by
      have := has_new w1 (bc (List.replicate 109 0)) 5 1 109 (by decide) (by unfold maxLen; omega)
      rw [bc_rep] at this
      exact this
    have hst := run_str (P := Try.prog) _ 42 9 5 Try.underlying42 Try.underlying5 Try.underlying9 _ _ hby
    have hcb := Lib.hid (fun w => lCut (List.replicate 109 0) 1 6 w)
    generalize hr9 : (List.replicate 109 0 : List UInt8) = r9 at hcb hst
    go_wp2_with fail
    have hu1b := hu1.then_alloc (.cells (Array.replicate 109 (.int .u8 0)) 5)
    have hu1c := Upd.alloc Non w1 (.cells (Array.replicate 109 (.int .u8 0)) 5)
    refine (hcb.out _).mono ?_
    rintro e w2 (⟨-, v2, rfl, ho2, hu2⟩ | ⟨hno, -⟩)
    · subst hr9
      rw [cut_b] at ho2
      obtain ⟨g2, c2, rfl, hg2, hg2l, hc2⟩ := own_rowform ho2 (by decide)
      have hz1 : w1.heap.size ≤ (w1.alloc (.cells (Array.replicate 109 (.int .u8 0)) 5)).heap.size := by simp
      have y0 := ho2.cells (g := g2) rfl 0 _ rfl
      have y1 := ho2.cells (g := g2) rfl 1 _ rfl
      have y2 := ho2.cells (g := g2) rfl 2 _ rfl
      have y3 := ho2.cells (g := g2) rfl 3 _ rfl
      have y4 := ho2.cells (g := g2) rfl 4 _ rfl
      have y7 := ho2.cells (g := g2) rfl 7 _ rfl
      have y8 := ho2.cells (g := g2) rfl 8 _ rfl
      have y9 := ho2.cells (g := g2) rfl 9 _ rfl
      rw [Addr.add_lit, Nat.zero_add] at y0 y1 y2 y3 y4 y7 y8 y9
      have x0 := hu2.cell (hu1c.cell x0 fun h => h) fun h => h
      have x1 := hu2.cell (hu1c.cell x1 fun h => h) fun h => h
      have x2 := hu2.cell (hu1c.cell x2 fun h => h) fun h => h
      have x3 := hu2.cell (hu1c.cell x3 fun h => h) fun h => h
      have x4 := hu2.cell (hu1c.cell x4 fun h => h) fun h => h
      have hU2 := hu1b.trans hu2 fun _ _ h => h
      clear hmk hby hst hcb hca ho1 ho2 hu1 hu1b hu1c hu2
      have hj := join_ab
      generalize (List.replicate 108 0 : List UInt8) = r8 at y4 hj
      go_wp2_with fail
      go_region_held3 (fun w' => w'.cell? ⟨g1, 0, none⟩ = some (.int .i64 1) ∧ w'.cell? ⟨g1, 1, none⟩ = some (.int .i64 5) ∧ w'.cell? ⟨g1, 2, none⟩ = some (.bool true) ∧ w'.cell? ⟨g1, 3, none⟩ = some (.bool true) ∧ w'.cell? ⟨g1, 4, none⟩ = some (.string ⟨#[]⟩) ∧ w'.cell? ⟨g2, 0, none⟩ = some (.int .i64 1) ∧ w'.cell? ⟨g2, 1, none⟩ = some (.int .i64 6) ∧ w'.cell? ⟨g2, 2, none⟩ = some (.bool true) ∧ w'.cell? ⟨g2, 3, none⟩ = some (.bool false) ∧ w'.cell? ⟨g2, 4, none⟩ = some (.string ⟨r8.toArray⟩) ∧ w'.cell? ⟨g2, 7, none⟩ = some (.bool false) ∧ w'.cell? ⟨g2, 8, none⟩ = some (.bool true) ∧ w'.cell? ⟨g2, 9, none⟩ = some (.string ⟨#[0]⟩)) (first | exact ⟨q0, q1, q2, q3, q4, q5, q6, q7, q8, q9, q10, q11, q12⟩ | exact ⟨x0, x1, x2, x3, x4, y0, y1, y2, y3, y4, y7, y8, y9⟩ | exact ⟨(Upd.alloc Non _ _).cell x0 fun h => h, (Upd.alloc Non _ _).cell x1 fun h => h, (Upd.alloc Non _ _).cell x2 fun h => h, (Upd.alloc Non _ _).cell x3 fun h => h, (Upd.alloc Non _ _).cell x4 fun h => h, (Upd.alloc Non _ _).cell y0 fun h => h, (Upd.alloc Non _ _).cell y1 fun h => h, (Upd.alloc Non _ _).cell y2 fun h => h, (Upd.alloc Non _ _).cell y3 fun h => h, (Upd.alloc Non _ _).cell y4 fun h => h, (Upd.alloc Non _ _).cell y7 fun h => h, (Upd.alloc Non _ _).cell y8 fun h => h, (Upd.alloc Non _ _).cell y9 fun h => h⟩ | go_keep)
        ((first | (go_at_call 13; refine (lJoin _ [⟨1, 5, true, true, []⟩, ⟨1, 6, true, false, r8⟩] _ ((has_new w2 [.int .i64 1, .int .i64 5, .bool true, .bool true, .string ⟨#[]⟩, .int .i64 1, .int .i64 6, .bool true, .bool false, .string ⟨r8.toArray⟩] 41 5 2 rfl (by unfold maxLen; omega)).non (Upd.drew _ _)) (by simp)).mono ?_; rintro e w3 hjj; unfold JoinTo at hjj; rw [hj] at hjj; obtain ⟨v3, rfl, ho3, hu3⟩ := hjj; have q0 := hu3.cell ((Upd.alloc Non _ _).cell x0 fun h => h) fun h => h; have q1 := hu3.cell ((Upd.alloc Non _ _).cell x1 fun h => h) fun h => h; have q2 := hu3.cell ((Upd.alloc Non _ _).cell x2 fun h => h) fun h => h; have q3 := hu3.cell ((Upd.alloc Non _ _).cell x3 fun h => h) fun h => h; have q4 := hu3.cell ((Upd.alloc Non _ _).cell x4 fun h => h) fun h => h; have q5 := hu3.cell ((Upd.alloc Non _ _).cell y0 fun h => h) fun h => h; have q6 := hu3.cell ((Upd.alloc Non _ _).cell y1 fun h => h) fun h => h; have q7 := hu3.cell ((Upd.alloc Non _ _).cell y2 fun h => h) fun h => h; have q8 := hu3.cell ((Upd.alloc Non _ _).cell y3 fun h => h) fun h => h; have q10 := hu3.cell ((Upd.alloc Non _ _).cell y7 fun h => h) fun h => h; have q11 := hu3.cell ((Upd.alloc Non _ _).cell y8 fun h => h) fun h => h; have q12 := hu3.cell ((Upd.alloc Non _ _).cell y9 fun h => h) fun h => h; have q9 := hu3.cell ((Upd.alloc Non _ _).cell y4 fun h => h) fun h => h) | fail))
      obtain ⟨g3, c3, rfl, hg3, hg3l, hc3⟩ := own_rowform ho3 (by decide)
      have z0 := ho3.cells (g := g3) rfl 0 _ rfl
      have z1 := ho3.cells (g := g3) rfl 1 _ rfl
      have z2 := ho3.cells (g := g3) rfl 2 _ rfl
      rw [Addr.add_lit, Nat.zero_add] at z0 z1 z2
      have hgs := fun (x y : Operand) (xs ys : Array Value) (w : World) => slot_guard .eql x y xs ys w
      have hgr := fun (x y : Operand) (xs ys : Array Value) (w : World) => rec_guard .eql x y xs ys w
      have hes : ∀ w : World, (binOp .eql 41 (.agg #[.int .i64 1, .int .i64 5, .bool true, .bool true, .string ⟨#[]⟩]) (.agg #[.int .i64 1, .int .i64 5, .bool true, .bool true, .string ⟨#[]⟩])).run Try.prog w = .ok (.bool true) w := fun w => by
        rw [run_eql_struct, slot_equal ⟨1, 5, true, true, []⟩ ⟨1, 5, true, true, []⟩]; rfl
      have her : ∀ w : World, (binOp .eql 37 (.agg #[.int .i64 5, .int .i64 6, .string ⟨#[]⟩]) (.agg #[.int .i64 5, .int .i64 6, .string ⟨#[]⟩])).run Try.prog w = .ok (.bool true) w := fun w => by
        rw [run_eql_struct, rec_equal ⟨5, 6, []⟩ ⟨5, 6, []⟩]; rfl
      have hU3 : Upd Non w w3 := hU2.trans (by (repeat (first | (with_reducible exact Upd.refl _ _) | (with_reducible assumption) | (with_reducible refine Upd.then_drew ?_) | (with_reducible refine Upd.then_drewN ?_ _) | (with_reducible refine Upd.then_alloc ?_ _) | (with_reducible refine Upd.then_setCell ?_ (fun h => absurd h (by simp <;> omega)) _) | (with_reducible refine Upd.trans ?_ (Upd.non (by assumption)) (fun _ _ h => h))))) fun _ _ h => h
      clear hj ho3
      go_wp2_with fail
      go_ret
      exact ⟨rfl, hU3⟩
    · rw [← hr9] at hno; exact absurd ok_b hno
  · exact absurd ok_a hno
end Go.Proofs.Ytiadbijholnbjaa
