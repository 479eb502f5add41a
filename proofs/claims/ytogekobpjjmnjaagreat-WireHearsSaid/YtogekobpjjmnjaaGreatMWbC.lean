/- The law's lives, few. -/
import Derived.Test.YtogekobpjjmnjaaGreatMWaYp
import Derived.Test.YtogekobpjjmnjaaGreatMWaY
import Derived.Test.YtogekobpjjmnjaaGreatMWrY
import Derived.Test.YtogekobpjjmnjaaGreatMWrT
namespace Go.Proofs.YtogekobpjjmnjaaGreat
open Go.RowKit Go.Amb
set_option linter.unusedVariables false
set_option linter.unusedSimpArgs false
set_option maxRecDepth 100000
attribute [local go_sem ↓] Go.wp_at_zero Go.wp_at_succ
def q1 : Rq := ⟨4, 2, [], [], [], [], [], [], 0, 0, 0, 0, 0, []⟩
def q2 : Rq := ⟨12, 0, [97, 98, 99], [107], [], [], [], [], 0, 0, 0, 0, 0, []⟩
def r1 : Rs := ⟨20, 0, 0, [97], 0, 0, [], ⟨0, 0, 0, false, false⟩, [], [], [], [], [], false, [], [], 0, false, [], []⟩
def S0 : Sl := ⟨.slice none 0 0, .slice none 0 0, .slice none 0 0, .slice none 0 0, .slice none 0 0, .slice none 0 0⟩
theorem q1_right : rightQ q1 := by decide +kernel
theorem q1_put : putQ q1 = [4, 2] := by decide +kernel
theorem q2_right : rightQ q2 := by decide +kernel
theorem q2_put : putQ q2 = [12, 0, 3, 97, 98, 99, 1, 107, 0] := by decide +kernel
theorem read0 : readQ [0] = none := by
  unfold readQ
  exact if_neg (by decide +kernel)
theorem r1_right : rightA r1 := by decide +kernel
theorem r1_ids : ids r1 := ⟨by unfold i64; decide, by unfold i64; decide, by unfold i64; decide, by simp [r1], by simp [r1]⟩
theorem r1_len : 20 < (putA r1).length := by decide +kernel
theorem S0_at (w : World) (r : Rs) (h1 : r.names = []) (h2 : r.lnames = []) (h3 : r.lpre = []) (h4 : r.lines = []) (h5 : r.ups = []) (h6 : r.parts = []) : RsAt w r S0 := by
  refine ⟨?_, ?_, ?_, ?_, ?_, ?_⟩
  · rw [h1]; exact Has.nil _ _
  · rw [h2]; exact Has.nil _ _
  · rw [h3]; exact Has.nil _ _
  · rw [h4]; exact Has.nil _ _
  · rw [h5]; exact Has.nil _ _
  · rw [h6]; exact Has.nil _ _
theorem S0_lt (B : Nat) : SlLt S0 B := fun k h => by simp [S0, At, Value.ownBlock] at h
set_option maxHeartbeats 8000000 in
theorem lives24 (w : World) : Calls Tryz.prog 7 #[] w (Ret (.bool true) w) := by
  have cB1 := Lib.hid (fun w => wBytes q1 (.slice none 0 0) w (Has.nil _ _) ⟨by decide, by decide, by decide, by decide, by decide, by decide⟩ (fun k h => by simp [At, Value.ownBlock] at h) id0)
  have cB2 := Lib.hid (fun w => wBytes q2 (.slice none 0 0) w (Has.nil _ _) ⟨by decide, by decide, by decide, by decide, by decide, by decide⟩ (fun k h => by simp [At, Value.ownBlock] at h) id0)
  have cR := Lib.hid (fun v w h => wRead v [0] w h (by decide))
  have cA := Lib.hid (fun w => wAnswer r1 S0 w (S0_at w r1 rfl rfl rfl rfl rfl rfl) ⟨by decide, by decide, by decide, by decide, by decide, by decide⟩ (S0_lt _) r1_ids)
  have hpl := r1_len
  have hps : (putA r1).length ≤ 140737488355328 := by decide +kernel
  have cH := Lib.hid (fun v w h => wReadAnswer v (putA r1) w h hps)
  have htl : Hid (tellA wTx (putA r1) = some r1) := Lib.hid (tell_put wTx_pc r1_right r1_ids)
  have hr1 := Lib.hid r1_right
  unfold BytesQ at cB1 cB2
  rw [q1_put] at cB1
  rw [q2_put] at cB2
  have hq1 := Lib.hid q1_right
  have hq2 := Lib.hid q2_right
  unfold ReadQ at cR
  rw [read0] at cR
  unfold AnswerA at cA
  unfold HeardA at cH
  rw [htl.out] at cH
  generalize putA r1 = pa at *
  unfold rqV rqC q1 at cB1
  unfold rqV rqC q2 at cB2
  unfold rsV rsC r1 S0 at cA
  unfold rqV rqC zeroQ at cR
  unfold rsV rsC at cH
  dsimp only [Option.getD, codeQ, codeA, Option.isSome] at *
  go_enter Tryz.func7, Tryz.ntmps7
  go_wp2_with fail
  refine (cB1.out _).mono ?_
  rintro en w1 (⟨-, v1, rfl, ho1, hu1⟩ | ⟨h, -⟩)
  case inr => exact absurd hq1.out h
  have hb1 := ho1.bytes
  clear ho1 cB1
  go_wp2_with fail
  refine (cB2.out _).mono ?_
  rintro en w2 (⟨-, v2, rfl, ho2, hu2⟩ | ⟨h, -⟩)
  case inr => exact absurd hq2.out h
  have hb2 := ho2.bytes
  have hU2 := hu1.trans hu2 fun _ _ h => h
  replace hb1 := hb1.non hu2
  clear ho2 cB2 hu1 hu2
  go_wp2_with fail
  refine (cR.out _ _ (has_new w2 [.int .u8 0] 5 1 1 rfl (by unfold maxLen; omega))).mono ?_
  rintro en w3 ⟨pv, rfl, hp, -, hu3⟩
  obtain ⟨pa_, pc_, rfl, -⟩ := has1 hp
  have hU3 := (hU2.then_alloc _).trans hu3 fun _ _ h => h
  replace hb1 := (hb1.non (Upd.alloc Non _ _)).non hu3
  replace hb2 := (hb2.non (Upd.alloc Non _ _)).non hu3
  clear hu3 hU2 cR hp
  dsimp only [List.length_nil]
  have hbx := heap_alloc_new w3 (.cells #[.int .i64 0, .int .i64 0, .string ⟨#[]⟩, .string ⟨#[]⟩, .string ⟨#[]⟩, .string ⟨#[]⟩, .string ⟨#[]⟩, .string ⟨#[]⟩, .int .i64 0, .int .i64 0, .int .i64 0, .int .i64 0, .int .i64 0, .slice none 0 0] 86)
  have hszq : Hid ((Tryz.prog.info? 86).map (·.size) = some (#[.int .i64 0, .int .i64 0, .string ⟨#[]⟩, .string ⟨#[]⟩, .string ⟨#[]⟩, .string ⟨#[]⟩, .string ⟨#[]⟩, .string ⟨#[]⟩, .int .i64 0, .int .i64 0, .int .i64 0, .int .i64 0, .int .i64 0, .slice pa_ 0 pc_] : Array Value).size) := Lib.hid (by kernel_rfl)
  go_wp2_with ((with_reducible (show wpList _ _ _ (⟨_, Op.store _ _ _, _, _, _, _⟩ :: _) _ _)); refine storeB_list rfl 86 _ _ rfl w3.heap.size #[.int .i64 0, .int .i64 0, .string ⟨#[]⟩, .string ⟨#[]⟩, .string ⟨#[]⟩, .string ⟨#[]⟩, .string ⟨#[]⟩, .string ⟨#[]⟩, .int .i64 0, .int .i64 0, .int .i64 0, .int .i64 0, .int .i64 0, .slice pa_ 0 pc_] _ _ rfl rfl hbx rfl hszq.out (by simp [Value.oneCell']) ?_)
  intro w4 hb4_ hu4
  have hU4 := (hU3.then_alloc _).trans hu4 fun j hj h => by have := hU3.size; omega
  replace hb1 := (hb1.non (Upd.alloc Non _ _)).upd hu4 fun k hk e => by
    obtain ⟨_, _, _, e1, _, _, e2⟩ := hb1
    subst e1
    rcases e2 with e2 | ⟨g, off, rfl, hc⟩
    · simp at e2
    · have hkg : g = k := by simpa [At, Value.ownBlock] using hk
      have := World.block_lt_of_cell? _ _ (hc 0 _ rfl)
      dsimp only at this
      omega
  replace hb2 := (hb2.non (Upd.alloc Non _ _)).upd hu4 fun k hk e => by
    obtain ⟨_, _, _, e1, _, _, e2⟩ := hb2
    subst e1
    rcases e2 with e2 | ⟨g, off, rfl, hc⟩
    · simp at e2
    · have hkg : g = k := by simpa [At, Value.ownBlock] using hk
      have := World.block_lt_of_cell? _ _ (hc 0 _ rfl)
      dsimp only at this
      omega
  clear hu4 hU3 hbx hb4_ hszq
  go_wp2_with fail
  refine (cA.out _).mono ?_
  rintro en w5 (⟨-, v5, rfl, ho5, hu5⟩ | ⟨h, -⟩)
  case inr => exact absurd hr1.out h
  have hb5 := ho5.bytes
  have hU5 := hU4.trans hu5 fun _ _ h => h
  replace hb1 := hb1.non hu5
  replace hb2 := hb2.non hu5
  obtain ⟨a5, c5, rfl⟩ := bytes_form hb5
  clear ho5 hu5 hU4 cA
  go_wp2_with fail
  refine (cH.out _ _ hb5).mono ?_
  rintro en w6 ⟨S, rfl, hS, -, hu6⟩
  obtain ⟨S1, S2, S3, S4, S5, S6⟩ := S
  obtain ⟨e1, e2, e3, e4, e5, e6⟩ := hS
  obtain ⟨_, a1, b1, rfl, -⟩ := e1
  obtain ⟨_, a2, b2, rfl, -⟩ := e2
  obtain ⟨_, a3, b3, rfl, -⟩ := e3
  obtain ⟨_, a4, b4, rfl, -⟩ := e4
  obtain ⟨_, a5, b5, rfl, -⟩ := e5
  obtain ⟨_, a6, b6, rfl, -⟩ := e6
  have hU6 := hU5.trans hu6 fun _ _ h => h
  replace hb1 := hb1.non hu6
  replace hb2 := hb2.non hu6
  clear hu6 hU5 cH hb5
  dsimp only [List.length_nil, r1, List.toArray] at *
  have hbx := heap_alloc_new w6 (.cells #[.int .i64 0, .int .i64 0, .int .i64 0, .string ⟨#[]⟩, .int .i64 0, .int .i64 0, .string ⟨#[]⟩, .int .i64 0, .int .i64 0, .int .i64 0, .bool false, .bool false, .string ⟨#[]⟩, .slice none 0 0, .slice none 0 0, .slice none 0 0, .string ⟨#[]⟩, .bool false, .slice none 0 0, .string ⟨#[]⟩, .int .i64 0, .bool false, .slice none 0 0, .slice none 0 0] 39)
  have hszr : Hid ((Tryz.prog.info? 39).map (·.size) = some (#[.int .i64 20, .int .i64 0, .int .i64 0, .string ⟨#[97]⟩, .int .i64 0, .int .i64 0, .string ⟨#[]⟩, .int .i64 0, .int .i64 0, .int .i64 0, .bool false, .bool false, .string ⟨#[]⟩, .slice a1 0 b1, .slice a2 0 b2, .slice a3 0 b3, .string ⟨#[]⟩, .bool false, .slice a4 0 b4, .string ⟨#[]⟩, .int .i64 0, .bool false, .slice a5 0 b5, .slice a6 0 b6] : Array Value).size) := Lib.hid (by kernel_rfl)
  go_wp2_with ((with_reducible (show wpList _ _ _ (⟨_, Op.store _ _ _, _, _, _, _⟩ :: _) _ _)); refine storeB_list rfl 39 _ _ rfl w6.heap.size #[.int .i64 20, .int .i64 0, .int .i64 0, .string ⟨#[97]⟩, .int .i64 0, .int .i64 0, .string ⟨#[]⟩, .int .i64 0, .int .i64 0, .int .i64 0, .bool false, .bool false, .string ⟨#[]⟩, .slice a1 0 b1, .slice a2 0 b2, .slice a3 0 b3, .string ⟨#[]⟩, .bool false, .slice a4 0 b4, .string ⟨#[]⟩, .int .i64 0, .bool false, .slice a5 0 b5, .slice a6 0 b6] _ _ rfl rfl hbx rfl hszr.out (by simp [Value.oneCell']) ?_)
  intro w7 hb7 hu7
  have hU7 := (hU6.then_alloc _).trans hu7 fun j hj h => by have := hU6.size; omega
  replace hb1 := (hb1.non (Upd.alloc Non _ _)).upd hu7 fun k hk e => by
    obtain ⟨_, _, _, e1, _, _, e2⟩ := hb1
    subst e1
    rcases e2 with e2 | ⟨g, off, rfl, hc⟩
    · simp at e2
    · have hkg : g = k := by simpa [At, Value.ownBlock] using hk
      have := World.block_lt_of_cell? _ _ (hc 0 _ rfl)
      dsimp only at this
      omega
  replace hb2 := (hb2.non (Upd.alloc Non _ _)).upd hu7 fun k hk e => by
    obtain ⟨_, _, _, e1, _, _, e2⟩ := hb2
    subst e1
    rcases e2 with e2 | ⟨g, off, rfl, hc⟩
    · simp at e2
    · have hkg : g = k := by simpa [At, Value.ownBlock] using hk
      have := World.block_lt_of_cell? _ _ (hc 0 _ rfl)
      dsimp only at this
      omega
  have y0 : w7.cell? ⟨w6.heap.size, 0, none⟩ = some (.int .i64 20) := (cells_of hb7).1 0
  have y3 : w7.cell? ⟨w6.heap.size, 3, none⟩ = some (.string ⟨#[97]⟩) := (cells_of hb7).1 3
  have s1 := run_str (P := Tryz.prog) _ 22 9 5 Tryz.underlying22 Tryz.underlying5 Tryz.underlying9 _ _ hb1
  have s2 := run_str (P := Tryz.prog) _ 22 9 5 Tryz.underlying22 Tryz.underlying5 Tryz.underlying9 _ _ hb2
  have hplI : (20 : Int) < (pa.length : Int) := by omega
  clear hu7 hU6 hbx hb7 hszr hb1 hb2
  go_wp2_with fail
  go_ret
  exact ⟨rfl, hU7⟩
end Go.Proofs.YtogekobpjjmnjaaGreat
