/- slot.Read, all ways; the walk over SlotReads. -/
import Derived.Test.YtiadbijholnbjaaSlU
import Derived.Test.YtiadbijholnbjaaSlI
namespace Go.Proofs.Ytiadbijholnbjaa
open Go.RowKit Go.Amb Go.Shelf
set_option linter.unusedVariables false
set_option linter.unusedSimpArgs false
theorem lRead (b : List UInt8) (v : Value) (w : World) (hB : Bytes w v b) : Calls Try.prog 18 #[v] w (Ret (.tuple #[(readS b).1.v, .int .i64 (readS b).2]) w) := by
  by_cases hl : b.length = 128
  · by_cases h0 : pf b 0 1 = [83]
    · exact lRead_rest b v w hB hl h0
    · exact lRead_head b v w hB hl h0
  · exact lRead_len b v w hB hl
theorem slot_eqs (p : S5) (w : World) : (binOp .eql 41 p.v p.v).run Try.prog w = .ok (.bool true) w := by
  rw [run_eql_struct, slot_equal]; simp [go_sem]
set_option maxRecDepth 100000 in
set_option maxHeartbeats 2000000 in
theorem lSlotReads (l : List UInt8) (v : Value) (w : World) (hB : Bytes w v l) (hl : l.length ≤ 140737488355328) : Calls Try.prog 7 #[v] w (Ret (.bool true) w) := by
  have hi := Lib.hid (@info_u8)
  have cR := Lib.hid (fun v w h => lRead l v w h)
  have cF := Lib.hid (fun w => refRead l w hl)
  obtain ⟨⟨x, z⟩, hx⟩ : ∃ x, readS l = x := ⟨_, rfl⟩
  rw [hx] at cR cF
  have heq := slot_eqs x
  obtain ⟨e, q, f, d0, d⟩ := x
  clear hx
  replace hB := Lib.hid hB
  go_enter Try.func7, Try.ntmps7
  go_wp2_with (at_builtin; go_must (refine wpList_app rfl _ _ 42 42 rfl w.heap.size 5 (.int .u8 0) 1 1 Try.underlying42 hi.out rfl _ 0 _ rfl (own_lit0 w w.heap.size 5 (Nat.le_refl _)) v l.length (bc l) rfl (Src.ofHas Try.underlying42 (hB.out.upd (Upd.alloc Non w _) fun _ _ h => h) (bc_one l)) (by unfold maxLen; omega) (by omega) (by simp) ?_))
  intro v1 w1 ho1 hu1 hf1
  replace hu1 : Upd (At (.slice (some ⟨w.heap.size, 0, none⟩) 0 0)) _ w1 := hu1
  have ho : Go.Amb.Own w1 w.heap.size 5 v1 l := by have := own_app (l := []) ho1; simpa using this
  have hU := Lib.hid ((Upd.alloc Non w _).trans hu1 fun j hj h => by simp [At, Value.ownBlock] at h; omega)
  clear ho1 hu1 hf1
  replace ho := Lib.hid ho
  go_wp2_with fail
  refine (cR.out _ _ ho.out.bytes).mono ?_
  rintro en w2 ⟨rfl, hu2⟩
  have hU2 := hU.out.trans hu2 fun _ _ h => h
  clear hU hu2 ho
  have hU3 := hU2.then_alloc (.cells #[.int .i64 e, .int .i64 q, .bool f, .bool d0, .string ⟨d.toArray⟩] 41)
  have hstr := run_str (P := Try.prog) _ 42 9 5 Try.underlying42 Try.underlying5 Try.underlying9 _ _ (hB.out.non hU3)
  go_wp2_with fail
  refine (cF.out _).mono ?_
  rintro en w3 ⟨rfl, hu3⟩
  obtain ⟨y, -, hz1, -⟩ := hu3.own1 (fun _ h => h.elim)
  have hz3 := hu3.size
  have hU4 := hU3.trans hu3 fun _ _ h => h
  have y0 := y 0
  have y1 := y 1
  have y2 := y 2
  have y3 := y 3
  have y4 := y 4
  clear y hstr hU3 hU2 hu3
  go_wp2_with fail
  refine (lives05 _).mono ?_
  rintro en w4 ⟨rfl, hu4⟩
  have hU5 := (hU4.then_alloc _).trans hu4 fun _ _ h => h
  go_wp2_with fail
  go_ret
  exact ⟨rfl, hU5⟩
end Go.Proofs.Ytiadbijholnbjaa
