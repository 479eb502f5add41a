/- The walk of LayoutHeads. -/
import Derived.Test.YtaflpabpkpfifaaDoorMLyRr
import Derived.Test.YtaflpabpkpfifaaDoorMLySt
import Derived.Test.YtaflpabpkpfifaaDoorMLyL
namespace Go.Proofs.YtaflpabpkpfifaaDoor
set_option maxRecDepth 100000
open Go.RowKit Go.Amb
set_option linter.unusedVariables false
attribute [local go_sem ↓] Go.wp_at_zero Go.wp_at_succ

theorem head_eqGuard (op : BinOp) (x y : Operand) (xs ys : Array Value) (w : World) : (eqGuard op 48 x y (.agg xs) (.agg ys)).run Tryd.prog w = .ok () w := run_eqGuard_agg w op 48 x y xs ys (by kernel_rfl)
theorem head_eql (a b c : Int) (d e : Bool) (w : World) : (binOp .eql 48 (.agg #[.int .i64 a, .int .i64 b, .int .i64 c, .bool d, .bool e]) (.agg #[.int .i64 a, .int .i64 b, .int .i64 c, .bool d, .bool e])).run Tryd.prog w = .ok (.bool true) w := by
  have hs : Program.stoodInHeld Tryd.prog 48 = false := by kernel_rfl
  rw [run_eql_struct, run_equalIn_agg w 9999 48 _ _ (by kernel_rfl) hs]
  simp only [Program.fieldsOf, Tryd.underlying48]
  simp [Op.eqFields, go_sem]
set_option maxHeartbeats 4000000 in
theorem heads_any (h : Hd) (v : Int) (s : Str) (w : World) (hi : hdI64 h) (hs : s.length ≤ 140737488355328) : Calls Tryd.prog 7 #[hdV h, .int .i64 v, txtV s] w (Ret (.bool true) w) := by
  have hlv := Lib.hid lives21
  have hA := Lib.hid (fun w => yHead h w hi)
  have hB := Lib.hid (fun w => qHead h w hi)
  have hC := Lib.hid (fun w => yState v w)
  have hD := Lib.hid (fun w => q21State v w)
  have hE := Lib.hid (fun w => yReadHead s w hs)
  have hF := Lib.hid (fun w => qReadHead s w hs)
  have hG := Lib.hid (fun w => yReadState s w)
  have hH := Lib.hid (fun w => q21ReadState s w)
  have hgu := head_eqGuard .eql
  generalize headR h = a at *
  generalize stR v = b at *
  generalize rhR s = c at *
  generalize rsR s = d at *
  obtain ⟨a1, a2⟩ := a
  obtain ⟨b1, b2⟩ := b
  obtain ⟨⟨c0, c1, c2, c3, c4⟩, c5⟩ := c
  obtain ⟨d1, d2⟩ := d
  obtain ⟨h0, h1, h2, h3, h4⟩ := h
  have heq := head_eql c0 c1 c2 c3 c4
  clear hi
  unfold hdV txtV at *
  simp only at *
  go_enter Tryd.func7, Tryd.ntmps7
  go_wp2_with fail
  refine (hA.out _).mono ?_
  rintro e w1 ⟨rfl, hX⟩
  have q := (hX.own1 (fun _ h => h.elim)).1
  have x0 := q 0
  have x1 := q 1
  have x2 := q 2
  have x3 := q 3
  have x4 := q 4
  clear q
  replace hX := (hX.own1 (fun _ h => h.elim)).2.2.2
  go_wp2_with fail
  refine (hB.out _).mono ?_
  rintro e w2 ⟨rfl, hu⟩
  replace hX := hX.trans hu fun _ _ h => h
  clear hu x0 x1 x2 x3 x4
  go_wp2_with fail
  refine (hC.out _).mono ?_
  rintro e w3 ⟨rfl, hu⟩
  replace hX := hX.trans hu fun _ _ h => h
  clear hu
  go_wp2_with fail
  refine (hD.out _).mono ?_
  rintro e w4 ⟨rfl, hu⟩
  replace hX := hX.trans hu fun _ _ h => h
  clear hu
  go_wp2_with fail
  refine (hE.out _).mono ?_
  rintro e w5 ⟨rfl, hu⟩
  replace hX := hX.trans hu fun _ _ h => h
  clear hu
  go_wp2_with fail
  refine (hF.out _).mono ?_
  rintro e w6 ⟨rfl, hu⟩
  have hb := hu.heap (heap_alloc_new w5 _) fun h => h
  replace hX := (hX.then_alloc _).trans hu fun _ _ h => h
  clear hu
  go_wp2_with fail
  refine (hG.out _).mono ?_
  rintro e w7 ⟨rfl, hu⟩
  have hb := hu.heap ((Upd.alloc Non w6 _).heap hb fun h => h) fun h => h
  have hc := hu.heap (heap_alloc_new w6 _) fun h => h
  replace hX := (hX.then_alloc _).trans hu fun _ _ h => h
  clear hu
  go_wp2_with fail
  refine (hH.out _).mono ?_
  rintro e w8 ⟨rfl, hu⟩
  have hb := hu.heap hb fun h => h
  have hc := hu.heap hc fun h => h
  replace hX := hX.trans hu fun _ _ h => h
  obtain ⟨y0, y1, y2, y3, y4⟩ := cells5 hb
  obtain ⟨z0, z1, z2, z3, z4⟩ := cells5 hc
  clear hu hb hc
  go_wp2_with fail
  refine (hlv.out _).mono ?_
  rintro e w9 ⟨rfl, hu⟩
  go_wp2_with fail
  go_ret
  exact ⟨rfl, hX.trans hu fun _ _ h => h⟩
end Go.Proofs.YtaflpabpkpfifaaDoor
