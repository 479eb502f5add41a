/- The walk over ambrylaw11.lives. -/
import Derived.Test.YtgdkgnolkepgdaaMSuK
namespace Go.Proofs.Ytgdkgnolkepgdaa
set_option maxRecDepth 100000
open Go.RowKit Go.Amb Go.Shelf
set_option linter.unusedVariables false
set_option linter.unusedSimpArgs false
attribute [local go_sem ↓] Go.wp_at_zero Go.wp_at_succ

theorem sup_guard (op : BinOp) (x y : Operand) (xs ys : Array Value) (w : World) : (eqGuard op 23 x y (.agg xs) (.agg ys)).run Try.prog w = .ok () w := run_eqGuard_agg w op 23 x y xs ys (by kernel_rfl)
theorem sup_eql (a b c d e f : Int) (w : World) : (binOp .eql 23 (.agg #[.int .i64 a, .int .i64 b, .int .i64 c, .int .i64 d, .int .i64 e, .int .i64 f]) (.agg #[.int .i64 a, .int .i64 b, .int .i64 c, .int .i64 d, .int .i64 e, .int .i64 f])).run Try.prog w = .ok (.bool true) w := by
  have hs : Program.stoodInHeld Try.prog 23 = false := by kernel_rfl
  rw [run_eql_struct, run_equalIn_agg w 9999 23 _ _ (by kernel_rfl) hs]
  simp only [Program.fieldsOf, Try.underlying23]
  simp [Op.eqFields, go_sem]
/-- A block of a call's own that is none of the disk's stays as it is. -/
theorem keep_blk {w w' : World} {F F' : Nat → Prop} (hk : Kp w F w' F') {b : Nat} {o : Obj} (hb : w.heap[b]? = some o) (hF : ¬ F b) : w'.heap[b]? = some o ∧ ¬ F' b :=
  ⟨hk.upd.heap hb hF, fun e => (hk.own b e).elim hF (fun h => by have := heap_lt hb; omega)⟩
set_option maxHeartbeats 4000000 in
theorem lives11 (w : World) : Calls Try.prog 14 #[] w (Ret (.bool true) w) := by
  have hgu := sup_guard .eql
  have heq := sup_eql
  go_enter Try.func14, Try.ntmps14
  go_wp2_with fail
  refine (lvNew 2 (by decide) (by decide) w).mono ?_
  rintro en w1 ⟨D, F1, rfl, hL⟩
  go_wp2_with fail
  have hfi := Lib.hid (yFind hL.at_ (by decide))
  rw [find_a] at hfi
  unfold spV Sp.none at hfi
  simp only at hfi
  refine hfi.out.mono ?_
  rintro en w2 ⟨rfl, hu⟩
  replace hL := hL.non (hu.then_alloc (.cells #[.int .i64 0, .int .i64 0, .int .i64 0, .int .i64 0, .int .i64 0, .int .i64 0] 23))
  clear hu hfi
  go_wp2_with fail
  have hsv := Lib.hid (ySave hL (by decide) ⟨0, 5, 0, 0, 0, 0⟩)
  rw [save_a] at hsv
  unfold SaveRet spV at hsv
  try unfold sp5 at hsv
  try unfold sp6 at hsv
  try unfold Sp.none at hsv
  simp only at hsv
  clear hL
  refine hsv.out.mono ?_
  rintro en w3 ⟨rfl, F3, hL, hK⟩
  clear hsv
  clear hK
  have hb5 := heap_alloc_new w3 (.cells #[.int .i64 0, .int .i64 5, .int .i64 0, .int .i64 0, .int .i64 0, .int .i64 0] 23)
  have hF5 : ¬ F3 w3.heap.size := fun e => by have := hL.at_.lt _ e; omega
  replace hL := hL.non (Upd.alloc Non w3 (.cells #[.int .i64 0, .int .i64 5, .int .i64 0, .int .i64 0, .int .i64 0, .int .i64 0] 23))
  go_wp2_with fail
  have hsv := Lib.hid (ySave hL (by decide) ⟨0, 6, 0, 0, 0, 0⟩)
  rw [save_b] at hsv
  unfold SaveRet spV at hsv
  try unfold sp5 at hsv
  try unfold sp6 at hsv
  try unfold Sp.none at hsv
  simp only at hsv
  clear hL
  refine hsv.out.mono ?_
  rintro en w4 ⟨rfl, F4, hL, hK⟩
  clear hsv
  obtain ⟨hb5, hF5⟩ := keep_blk hK hb5 hF5
  clear hK
  replace hb5 := (Upd.alloc Non w4 (.cells #[.int .i64 1, .int .i64 6, .int .i64 0, .int .i64 0, .int .i64 0, .int .i64 0] 23)).heap hb5 fun h => h
  have hb8 := heap_alloc_new w4 (.cells #[.int .i64 1, .int .i64 6, .int .i64 0, .int .i64 0, .int .i64 0, .int .i64 0] 23)
  have hF8 : ¬ F4 w4.heap.size := fun e => by have := hL.at_.lt _ e; omega
  replace hL := hL.non (Upd.alloc Non w4 (.cells #[.int .i64 1, .int .i64 6, .int .i64 0, .int .i64 0, .int .i64 0, .int .i64 0] 23))
  go_wp2_with fail
  have hfi := Lib.hid (yFind hL.at_ (by decide))
  rw [find_c] at hfi
  unfold spV at hfi
  try unfold sp6 at hfi
  try unfold Sp.none at hfi
  simp only at hfi
  refine hfi.out.mono ?_
  rintro en w5 ⟨rfl, hu⟩
  clear hfi
  replace hL := hL.non hu
  replace hb5 := (Upd.alloc Non w5 (.cells #[.int .i64 1, .int .i64 6, .int .i64 0, .int .i64 0, .int .i64 0, .int .i64 0] 23)).heap (hu.heap hb5 fun h => h) fun h => h
  replace hb8 := (Upd.alloc Non w5 (.cells #[.int .i64 1, .int .i64 6, .int .i64 0, .int .i64 0, .int .i64 0, .int .i64 0] 23)).heap (hu.heap hb8 fun h => h) fun h => h
  have hb10 := heap_alloc_new w5 (.cells #[.int .i64 1, .int .i64 6, .int .i64 0, .int .i64 0, .int .i64 0, .int .i64 0] 23)
  have hF10 : ¬ F4 w5.heap.size := fun e => by have := hL.at_.lt _ e; omega
  replace hL := hL.non (Upd.alloc Non w5 (.cells #[.int .i64 1, .int .i64 6, .int .i64 0, .int .i64 0, .int .i64 0, .int .i64 0] 23))
  clear hu
  go_wp2_with fail
  have har := Lib.hid (lvArm hL 0 (by decide))
  rw [arm_0] at har
  simp only at har
  refine har.out.mono ?_
  clear hL
  rintro en w6 ⟨rfl, F6, hL, hK⟩
  clear har
  obtain ⟨hb5, hF5⟩ := keep_blk hK hb5 hF5
  obtain ⟨hb8, hF8⟩ := keep_blk hK hb8 hF8
  obtain ⟨hb10, hF10⟩ := keep_blk hK hb10 hF10
  clear hK
  go_wp2_with fail
  have hsv := Lib.hid (ySave hL (by decide) ⟨0, 7, 0, 0, 0, 0⟩)
  rw [save_c] at hsv
  unfold SaveRet spV at hsv
  try unfold sp5 at hsv
  try unfold sp6 at hsv
  try unfold Sp.none at hsv
  simp only at hsv
  clear hL
  refine hsv.out.mono ?_
  rintro en w7 ⟨rfl, F7, hL, hK⟩
  clear hsv
  obtain ⟨hb5, hF5⟩ := keep_blk hK hb5 hF5
  obtain ⟨hb8, hF8⟩ := keep_blk hK hb8 hF8
  obtain ⟨hb10, hF10⟩ := keep_blk hK hb10 hF10
  clear hK
  replace hb5 := (Upd.alloc Non w7 (.cells #[.int .i64 0, .int .i64 0, .int .i64 0, .int .i64 0, .int .i64 0, .int .i64 0] 23)).heap hb5 fun h => h
  replace hb8 := (Upd.alloc Non w7 (.cells #[.int .i64 0, .int .i64 0, .int .i64 0, .int .i64 0, .int .i64 0, .int .i64 0] 23)).heap hb8 fun h => h
  replace hb10 := (Upd.alloc Non w7 (.cells #[.int .i64 0, .int .i64 0, .int .i64 0, .int .i64 0, .int .i64 0, .int .i64 0] 23)).heap hb10 fun h => h
  replace hL := hL.non (Upd.alloc Non w7 (.cells #[.int .i64 0, .int .i64 0, .int .i64 0, .int .i64 0, .int .i64 0, .int .i64 0] 23))
  go_wp2_with fail
  have hcr := Lib.hid (lvCrash hL (by decide) (.slice none 0 0) [] (Has.nil _ _) (fun h => absurd h (by decide)))
  rw [crash_dead] at hcr
  refine hcr.out.mono ?_
  clear hL
  rintro en w8 ⟨rfl, F8, hL, hK⟩
  clear hcr
  obtain ⟨hb5, hF5⟩ := keep_blk hK hb5 hF5
  obtain ⟨hb8, hF8⟩ := keep_blk hK hb8 hF8
  obtain ⟨hb10, hF10⟩ := keep_blk hK hb10 hF10
  clear hK
  go_wp2_with fail
  have hfi := Lib.hid (yFind hL.at_ (by decide))
  rw [find_c] at hfi
  unfold spV at hfi
  try unfold sp6 at hfi
  try unfold Sp.none at hfi
  simp only at hfi
  refine hfi.out.mono ?_
  rintro en w9 ⟨rfl, hu⟩
  clear hfi
  replace hL := hL.non hu
  replace hb5 := (Upd.alloc Non w9 (.cells #[.int .i64 1, .int .i64 6, .int .i64 0, .int .i64 0, .int .i64 0, .int .i64 0] 23)).heap (hu.heap hb5 fun h => h) fun h => h
  replace hb8 := (Upd.alloc Non w9 (.cells #[.int .i64 1, .int .i64 6, .int .i64 0, .int .i64 0, .int .i64 0, .int .i64 0] 23)).heap (hu.heap hb8 fun h => h) fun h => h
  replace hb10 := (Upd.alloc Non w9 (.cells #[.int .i64 1, .int .i64 6, .int .i64 0, .int .i64 0, .int .i64 0, .int .i64 0] 23)).heap (hu.heap hb10 fun h => h) fun h => h
  have hU := hL.upd.then_alloc (.cells #[.int .i64 1, .int .i64 6, .int .i64 0, .int .i64 0, .int .i64 0, .int .i64 0] 23)
  clear hu hL hF5 hF8 hF10
  obtain ⟨x0, x1, x2, x3, x4, x5⟩ := cells6 hb5
  obtain ⟨y0, y1, y2, y3, y4, y5⟩ := cells6 hb8
  obtain ⟨z0, z1, z2, z3, z4, z5⟩ := cells6 hb10
  clear hb5 hb8 hb10
  go_wp2_with fail
  go_ret
  exact ⟨rfl, hU⟩

end Go.Proofs.Ytgdkgnolkepgdaa
