/- The walks over strconv.Itoa at 12, layout.Version at 12, layout.ReadVersion at 012; ambrylaw21.lives. -/
import Derived.Test.YtaflpabpkpfifaaDoorMLyK
import Derived.Test.YtaflpabpkpfifaaDoorMLyE
import Derived.Test.YtaflpabpkpfifaaDoorMLyV
namespace Go.Proofs.YtaflpabpkpfifaaDoor
set_option maxRecDepth 100000
open Go.RowKit Go.Amb
set_option linter.unusedVariables false
attribute [local go_sem ↓] Go.wp_at_zero Go.wp_at_succ

theorem iSmall12 (w : World) : Calls Tryd.prog 91 #[.int .i64 12] w (Ret (.string ⟨#[49, 50]⟩) w) := by
  go_enter Tryd.func91, Tryd.ntmps91
  go_wp2_with fail
  go_ret
  exact ⟨by kernel_rfl, Upd.refl _ _⟩
theorem iFormat12 (w : World) : Calls Tryd.prog 84 #[.int .i64 12, .int .i64 10] w (Ret (.string ⟨#[49, 50]⟩) w) := by
  go_enter Tryd.func84, Tryd.ntmps84
  go_wp2_with fail
  refine (iSmall12 _).mono ?_
  rintro e w1 ⟨rfl, hu⟩
  go_wp2_with fail
  go_ret
  exact ⟨rfl, hu⟩
theorem iItoa12 (w : World) : Calls Tryd.prog 71 #[.int .i64 12] w (Ret (.string ⟨#[49, 50]⟩) w) := by
  go_enter Tryd.func71, Tryd.ntmps71
  go_wp2_with fail
  refine (iFormat12 _).mono ?_
  rintro e w1 ⟨rfl, hu⟩
  go_wp2_with fail
  go_ret
  exact ⟨rfl, hu⟩
theorem yItoa12 (w : World) : Calls Tryd.prog 52 #[.int .i64 12] w (Ret (.string ⟨#[49, 50]⟩) w) := by
  go_enter Tryd.func52, Tryd.ntmps52
  go_wp2_with fail
  refine (iItoa12 _).mono ?_
  rintro e w1 ⟨rfl, hu⟩
  go_wp2_with fail
  go_ret
  exact ⟨rfl, hu⟩
theorem yVersion12 (w : World) : Calls Tryd.prog 20 #[.int .i64 12, .bool false] w (Ret (.string ⟨#[49, 50]⟩) w) := by
  go_enter Tryd.func20, Tryd.ntmps20
  go_wp2_with fail
  refine (yItoa12 _).mono ?_
  rintro e w1 ⟨rfl, hu⟩
  go_wp2_with fail
  go_ret
  exact ⟨rfl, hu⟩
theorem span_eqGuard (op : BinOp) (x y : Operand) (xs ys : Array Value) (w : World) : (eqGuard op 34 x y (.agg xs) (.agg ys)).run Tryd.prog w = .ok () w := run_eqGuard_agg w op 34 x y xs ys (by kernel_rfl)
theorem span_eql (a b c d : Str) (w : World) : (binOp .eql 34 (.agg #[.string ⟨a.toArray⟩, .string ⟨b.toArray⟩]) (.agg #[.string ⟨c.toArray⟩, .string ⟨d.toArray⟩])).run Tryd.prog w = .ok (.bool (decide (a = c) && decide (b = d))) w := by
  have hs : Program.stoodInHeld Tryd.prog 34 = false := by kernel_rfl
  rw [run_eql_struct, run_equalIn_agg w 9999 34 _ _ (by kernel_rfl) hs]
  simp only [Program.fieldsOf, Tryd.underlying34]
  simp [Op.eqFields, go_sem]
  by_cases h1 : a = c
  · by_cases h2 : b = d <;> simp [h1, h2]
  · simp [h1]
theorem lv_key (w : World) : Calls Tryd.prog 10 #[.agg #[.int .i64 1, .string ⟨#[97, 98, 99]⟩, .string ⟨#[]⟩, .slice none 0 0]] w (Ret (.tuple #[.string ⟨#[2, 98, 0, 1, 2, 97, 98, 99, 0, 1]⟩, .int .i64 0]) w) := by
  have h := yKey ⟨1, [97, 98, 99], [], []⟩ (.slice none 0 0) w (Has.nil _ _) (fun n hn => by cases hn) (by simp) (by simp)
  have e : keyR ⟨1, [97, 98, 99], [], []⟩ = ([2, 98, 0, 1, 2, 97, 98, 99, 0, 1], 0) := by decide +kernel
  rw [e] at h
  exact h
theorem lv_span (w : World) : Calls Tryd.prog 12 #[.agg #[.int .i64 2, .string ⟨#[97, 98, 99]⟩, .string ⟨#[]⟩, .slice none 0 0]] w (Ret (.tuple #[.agg #[.string ⟨#[2, 111, 0, 1, 2, 97, 98, 99, 0, 1]⟩, .string ⟨#[2, 111, 0, 1, 2, 97, 98, 99, 0, 1, 255]⟩], .int .i64 0]) w) := by
  have h := ySpan ⟨2, [97, 98, 99], [], []⟩ (.slice none 0 0) w (Has.nil _ _) (fun n hn => by cases hn) (by simp) (by simp)
  have e : spanR ⟨2, [97, 98, 99], [], []⟩ = (([2, 111, 0, 1, 2, 97, 98, 99, 0, 1], [2, 111, 0, 1, 2, 97, 98, 99, 0, 1, 255]), 0) := by decide +kernel
  rw [e] at h
  exact h
theorem lv_head (w : World) : Calls Tryd.prog 17 #[.agg #[.int .i64 0, .int .i64 0, .int .i64 0, .bool false, .bool false]] w (Ret (.tuple #[.string ⟨#[0, 0, 0, 0, 0, 0, 0, 0, 0, 0, 0]⟩, .int .i64 0]) w) := by
  have h := yHead Hd.none w (have hz : i64Ok 0 := ⟨by decide, by decide⟩; ⟨hz, hz, hz⟩)
  have e : headR Hd.none = ([0, 0, 0, 0, 0, 0, 0, 0, 0, 0, 0], 0) := by decide +kernel
  rw [e] at h
  exact h
theorem lv_read (w : World) : Calls Tryd.prog 19 #[.string ⟨#[48, 49, 50]⟩] w (Ret (.tuple #[.int .i64 0, .bool false, .int .i64 4]) w) := by
  have h := yReadVersion [48, 49, 50] [49, 50] w (fun _ _ w' _ => yItoa12 w')
  have e : verR [48, 49, 50] [49, 50] = (0, false, 4) := by decide +kernel
  rw [e] at h
  exact h
set_option maxHeartbeats 2000000 in
theorem lives21 (w : World) : Calls Tryd.prog 9 #[] w (Ret (.bool true) w) := by
  have hgu := span_eqGuard .eql
  have hse := span_eql [2, 111, 0, 1, 2, 97, 98, 99, 0, 1] [2, 111, 0, 1, 2, 97, 98, 99, 0, 1, 255] [2, 111, 0, 1, 2, 97, 98, 99, 0, 1] [2, 111, 0, 1, 2, 97, 98, 99, 0, 1, 255]
  rw [show (decide (([2, 111, 0, 1, 2, 97, 98, 99, 0, 1] : Str) = [2, 111, 0, 1, 2, 97, 98, 99, 0, 1]) && decide (([2, 111, 0, 1, 2, 97, 98, 99, 0, 1, 255] : Str) = [2, 111, 0, 1, 2, 97, 98, 99, 0, 1, 255])) = true by decide] at hse
  go_enter Tryd.func9, Tryd.ntmps9
  go_wp2_with fail
  refine (lv_key _).mono ?_
  rintro e w1 ⟨rfl, hu1⟩
  go_wp2_with fail
  refine (lv_span _).mono ?_
  rintro e w2 ⟨rfl, hu2⟩
  go_wp2_with fail
  refine (lv_head _).mono ?_
  rintro e w3 ⟨rfl, hu3⟩
  obtain ⟨q, -, -, hU3⟩ := hu3.own1 (fun _ h => h.elim)
  have c0 := q 0
  have c1 := q 1
  have hb3 := hu3.heap (heap_alloc_new w2 _) fun h => h
  clear q hu3
  go_wp2_with fail
  refine (lv_read _).mono ?_
  rintro e w4 ⟨rfl, hu4⟩
  have d0 := hu4.cell c0 fun h => h
  have d1 := hu4.cell c1 fun h => h
  clear c0 c1 hb3
  go_wp2_with fail
  refine (yVersion12 _).mono ?_
  rintro e w5 ⟨rfl, hu5⟩
  go_wp2_with fail
  go_ret
  exact ⟨rfl, (((hu1.trans hu2 fun _ _ h => h).trans hU3 fun _ _ h => h).trans hu4 fun _ _ h => h).trans hu5 fun _ _ h => h⟩
end Go.Proofs.YtaflpabpkpfifaaDoor
