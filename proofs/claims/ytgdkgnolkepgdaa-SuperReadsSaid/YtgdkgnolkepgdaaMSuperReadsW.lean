/- The walk of SuperReads. -/
import Derived.Test.YtgdkgnolkepgdaaMSuL
namespace Go.Proofs.Ytgdkgnolkepgdaa
set_option maxRecDepth 100000
open Go.RowKit Go.Amb Go.Shelf
set_option linter.unusedVariables false
set_option linter.unusedSimpArgs false
attribute [local go_sem ↓] Go.wp_at_zero Go.wp_at_succ
set_option maxHeartbeats 2000000 in
theorem reads11 (v : Value) (b : List UInt8) (w : World) (hB : Bytes w v b) (hb : b.length ≤ 140737488355328) : Calls Try.prog 4 #[v] w (Ret (.bool true) w) := by
  have hlv := Lib.hid lives11
  have hi := Lib.hid (@info_u8)
  have hre := Lib.hid (fun v w (hB : Bytes w v b) => yRead v b w hB hb)
  have hrq := Lib.hid (fun w => qRead b w hb)
  have hgu := sup_guard .eql
  have heq := sup_eql
  generalize readR b = rr at *
  obtain ⟨⟨g, r, st, ep, la, ma⟩, e⟩ := rr
  unfold spV at *
  simp only at *
  obtain ⟨va, vc, rfl⟩ := bytes_form hB
  go_enter Try.func4, Try.ntmps4
  go_wp2_with (at_builtin; go_must (refine wpList_app rfl _ _ 24 24 rfl w.heap.size 5 (.int .u8 0) 1 1 Try.underlying24 hi.out rfl _ 0 [] rfl (World.ownsRow_lit (size := 1) w #[] 0 (Nat.le_refl _) (Nat.zero_le _) rfl) _ b.length (bc b) rfl (Src.ofHas Try.underlying24 (hB.upd (Upd.alloc Non w _) fun _ _ h => h) (fun u hu => by unfold bc at hu; rw [List.mem_map] at hu; obtain ⟨x, _, rfl⟩ := hu; rfl)) (by unfold maxLen; omega) (by omega) (by simp) ?_))
  intro v1 w1 ho hu hf
  have hU : Upd Non w w1 := (Upd.alloc Non w _).trans hu (fun j hj h => by simp [At, Value.ownBlock] at h; omega)
  have hB1 : Bytes w1 v1 b := by
    have := has_of_owns ho
    simpa using this
  have hBw := hB.upd hU fun _ _ h => h
  obtain ⟨v1a, v1c, rfl⟩ := bytes_form hB1
  clear ho hu hf
  go_wp2_with fail
  refine (hre.out _ _ hB1).mono ?_
  rintro en w2 ⟨rfl, hu⟩
  replace hU := hU.trans hu fun _ _ h => h
  replace hBw := (hBw.upd hu fun _ _ h => h).upd (Upd.alloc Non w2 (.cells #[.int .i64 g, .int .i64 r, .int .i64 st, .int .i64 ep, .int .i64 la, .int .i64 ma] 23)) fun _ _ h => h
  clear hu hB1
  have hst := run_str (P := Try.prog) _ 24 9 5 Try.underlying24 Try.underlying5 Try.underlying9 _ _ hBw
  have hb1 := heap_alloc_new w2 (.cells #[.int .i64 g, .int .i64 r, .int .i64 st, .int .i64 ep, .int .i64 la, .int .i64 ma] 23)
  replace hU := hU.then_alloc (.cells #[.int .i64 g, .int .i64 r, .int .i64 st, .int .i64 ep, .int .i64 la, .int .i64 ma] 23)
  go_wp2_with fail
  refine (hrq.out _).mono ?_
  rintro en w3 ⟨rfl, hu⟩
  replace hU := (hU.trans hu fun _ _ h => h).then_alloc (.cells #[.int .i64 g, .int .i64 r, .int .i64 st, .int .i64 ep, .int .i64 la, .int .i64 ma] 23)
  replace hb1 := (Upd.alloc Non w3 (.cells #[.int .i64 g, .int .i64 r, .int .i64 st, .int .i64 ep, .int .i64 la, .int .i64 ma] 23)).heap (hu.heap hb1 fun h => h) fun h => h
  obtain ⟨x0, x1, x2, x3, x4, x5⟩ := cells6 hb1
  clear hu hst hBw hB
  go_wp2_with fail
  refine (hlv.out _).mono ?_
  rintro en w4 ⟨rfl, hu⟩
  go_wp2_with fail
  go_ret
  exact ⟨rfl, hU.trans hu fun _ _ h => h⟩
end Go.Proofs.Ytgdkgnolkepgdaa
