/- The document's example of layer 11, in plain Lean. -/
import Derived.Test.YtgdkgnolkepgdaaMSuJ
import Derived.Test.YtgdkgnolkepgdaaMBlE
namespace Go.Proofs.Ytgdkgnolkepgdaa
set_option maxRecDepth 100000
open Go.RowKit Go.Amb
set_option linter.unusedVariables false
set_option linter.unusedSimpArgs false

def ds (a b : List UInt8) (f : Int) : Dk := ⟨[a, b], [], f, false⟩
theorem find_two (a b : List UInt8) (f : Int) : findR (ds a b f) = if (readR a).2 ≠ 0 ∧ (readR b).2 ≠ 0 then (Sp.none, 0, 4) else
    if (readR a).2 ≠ 0 ∨ ((readR b).2 = 0 ∧ (readR a).1.gen < (readR b).1.gen) then ((readR b).1, 1, 0) else ((readR a).1, 0, 0) := by
  have h0 : (ds a b f).within 0 = 0 := by simp [ds, Dk.within]
  have h1 : (ds a b f).within 1 = 0 := by simp [ds, Dk.within]
  have e0 : (ds a b f).has 0 = a := by simp [ds, Dk.has, lastAt]
  have e1 : (ds a b f).has 1 = b := by simp [ds, Dk.has, lastAt]
  unfold findR
  rw [h0, h1, e0, e1]
  simp
theorem write_0 (a b p : List UInt8) (hp : p.length ≤ 128) : (ds a b (-1)).write 0 p = (⟨[a, b], [(full p, 0)], -1, false⟩, 0) := by
  have h : ¬ 128 < p.length := by omega
  simp [ds, Dk.write, Dk.within, Dk.burn, h]
theorem write_1 (a b p : List UInt8) (hp : p.length ≤ 128) : (ds a b (-1)).write 1 p = (⟨[a, b], [(full p, 1)], -1, false⟩, 0) := by
  have h : ¬ 128 < p.length := by omega
  simp [ds, Dk.write, Dk.within, Dk.burn, h]
theorem flush_0 (a b q : List UInt8) : (⟨[a, b], [(q, 0)], -1, false⟩ : Dk).flush = (ds q b (-1), 0) := by
  simp [ds, Dk.flush, Dk.burn, Dk.keep, keepK]
theorem flush_1 (a b q : List UInt8) : (⟨[a, b], [(q, 1)], -1, false⟩ : Dk).flush = (ds a q (-1), 0) := by
  simp [ds, Dk.flush, Dk.burn, Dk.keep, keepK]
theorem arm_0 (a b : List UInt8) : (ds a b (-1)).arm 0 = (ds a b 0, 0) := by
  have h : max (-1) (0 : Int) = 0 := by decide
  simp [ds, Dk.arm, h]
theorem write_dead (a b p : List UInt8) (hp : p.length ≤ 128) : (ds a b 0).write 0 p = (⟨[a, b], [], 0, true⟩, 20) := by
  have h : ¬ 128 < p.length := by omega
  simp [ds, Dk.write, Dk.within, Dk.burn, h]
theorem crash_dead (a b : List UInt8) : (⟨[a, b], [], 0, true⟩ : Dk).crash [] = ds a b (-1) := by simp [ds, Dk.crash, Dk.keep, keepK]
def nul128 : List UInt8 := List.replicate 128 0
theorem read_nul : readR nul128 = (Sp.none, 4) := by
  refine readR_no fun e => ?_
  have h := e.2
  by_cases hok : SpOk (spOf nul128)
  · rw [bytesR_yes hok] at h
    injection h with h1 h2
    have h3 : (full (putS (spOf nul128)))[0]? = some 65 := by simp [full, putS, preS]
    rw [h1] at h3
    simp [nul128] at h3
  · rw [bytesR_no hok] at h
    injection h with h1 h2
    cases h2
def sp5 : Sp := ⟨0, 5, 0, 0, 0, 0⟩
def sp6 : Sp := ⟨1, 6, 0, 0, 0, 0⟩
def b5 : List UInt8 := full (putS sp5)
def b6 : List UInt8 := full (putS sp6)
theorem ok5 : SpOk sp5 := by decide
theorem ok6 : SpOk sp6 := by decide
theorem read5 : readR b5 = (sp5, 0) := bytes_back ok5
theorem read6 : readR b6 = (sp6, 0) := bytes_back ok6
theorem new2 : Dk.new 2 = ds nul128 nul128 (-1) := rfl
theorem find_a : findR (Dk.new 2) = (Sp.none, 0, 4) := by rw [new2, find_two, read_nul]; simp
theorem find_b : findR (ds b5 nul128 (-1)) = (sp5, 0, 0) := by rw [find_two, read_nul, read5]; simp
theorem find_c (f : Int) : findR (ds b5 b6 f) = (sp6, 1, 0) := by rw [find_two, read5, read6]; simp [sp5, sp6]
theorem save_a : saveR (Dk.new 2) ⟨0, 5, 0, 0, 0, 0⟩ = (ds b5 nul128 (-1), sp5, 0) := by
  have hG : nextG (Dk.new 2) = 0 := by unfold nextG; rw [find_a]; simp
  have hw : (Dk.new 2).write (0 % 2) (putS ((⟨0, 5, 0, 0, 0, 0⟩ : Sp).at_ 0)) = (⟨[nul128, nul128], [(b5, 0)], -1, false⟩, 0) := by rw [new2]; exact write_0 _ _ _ (by rw [putS_length]; decide)
  rw [save_ok (s := ⟨0, 5, 0, 0, 0, 0⟩) (G := 0) (by rw [find_a]; simp) hG (by decide) ok5 (by rw [hw]) (by rw [hw, flush_0]), hw, flush_0]
  rfl
theorem save_b : saveR (ds b5 nul128 (-1)) ⟨0, 6, 0, 0, 0, 0⟩ = (ds b5 b6 (-1), sp6, 0) := by
  have hG : nextG (ds b5 nul128 (-1)) = 1 := by unfold nextG; rw [find_b]; rfl
  have hw : (ds b5 nul128 (-1)).write (1 % 2) (putS ((⟨0, 6, 0, 0, 0, 0⟩ : Sp).at_ 1)) = (⟨[b5, nul128], [(b6, 1)], -1, false⟩, 0) := write_1 _ _ _ (by rw [putS_length]; decide)
  rw [save_ok (s := ⟨0, 6, 0, 0, 0, 0⟩) (G := 1) (by rw [find_b]; simp) hG (by decide) ok6 (by rw [hw]) (by rw [hw, flush_1]), hw, flush_1]
  rfl
theorem save_c : saveR (ds b5 b6 0) ⟨0, 7, 0, 0, 0, 0⟩ = (⟨[b5, b6], [], 0, true⟩, Sp.none, 20) := by
  have hG : nextG (ds b5 b6 0) = 2 := by unfold nextG; rw [find_c]; rfl
  have hw : (ds b5 b6 0).write (2 % 2) (putS ((⟨0, 7, 0, 0, 0, 0⟩ : Sp).at_ 2)) = (⟨[b5, b6], [], 0, true⟩, 20) := write_dead _ _ _ (by rw [putS_length]; decide)
  rw [save_w (s := ⟨0, 7, 0, 0, 0, 0⟩) (G := 2) (by rw [find_c]; simp) hG (by decide) (by decide) (by rw [hw]; decide), hw]
end Go.Proofs.Ytgdkgnolkepgdaa

namespace Go.Proofs.Ytgdkgnolkepgdaa
set_option maxRecDepth 100000
open Go.RowKit Go.Amb Go.Shelf
set_option linter.unusedVariables false
set_option linter.unusedSimpArgs false
attribute [local go_sem ↓] Go.wp_at_zero Go.wp_at_succ

theorem sup_guard (op : BinOp) (x y : Operand) (xs ys : Array Value) (w : World) : (eqGuard op 23 x y (.agg xs) (.agg ys)).run Try.prog w = .ok () w := run_eqGuard_agg w op 23 x y xs ys (by kernel_rfl)
theorem sup_eql (a b c d e f : Int) (w : World) : (binOp .eql 23 (.agg #[.int .i64 a, .int .i64 b, .int .i64 c, .int .i64 d, .int .i64 e, .int .i64 f]) (.agg #[.int .i64 a, .int .i64 b, .int .i64 c, .int .i64 d, .int .i64 e, .int .i64 f])).run Try.prog w = .ok (.bool true) w := by
  have hs : Program.stoodInHeld Try.prog 23 = false := by kernel_rfl
  rw [run_eql_struct, run_equalIn_agg w 9999 23 _ _ (by kernel_rfl) hs]
  simp only [Program.fieldsOf, Try.underlying23]
  simp [Op.eqFields, go_sem]
/-- A block of a call's own that is none of the disk's stays as it is. -/
theorem keep_blk {w w' : World} {F F' : Nat → Prop} (hk : Kp w F w' F') {b : Nat} {o : Obj} (hb : w.heap[b]? = some o) (hF : ¬ F b) : w'.heap[b]? = some o ∧ ¬ F' b :=
  ⟨hk.upd.heap hb hF, fun e => (hk.own b e).elim hF (fun h => by have := heap_lt hb; omega)⟩
set_option maxHeartbeats 4000000 in
theorem lives11 (w : World) : Calls Try.prog 14 #[] w (Ret (.bool true) w) := by
  have hgu := sup_guard .eql
  have heq := sup_eql
  go_enter Try.func14, Try.ntmps14
  go_wp2_with fail
  refine (lvNew 2 (by decide) (by decide) w).mono ?_
  rintro en w1 ⟨D, F1, rfl, hL⟩
  go_wp2_with fail
  have hfi := Lib.hid (yFind hL.at_ (by decide))
  rw [find_a] at hfi
  unfold spV Sp.none at hfi
  simp only at hfi
  refine hfi.out.mono ?_
  rintro en w2 ⟨rfl, hu⟩
  replace hL := hL.non (hu.then_alloc (.cells #[.int .i64 0, .int .i64 0, .int .i64 0, .int .i64 0, .int .i64 0, .int .i64 0] 23))
  clear hu hfi
  go_wp2_with fail
  have hsv := Lib.hid (ySave hL (by decide) ⟨0, 5, 0, 0, 0, 0⟩)
  rw [save_a] at hsv
  unfold SaveRet spV at hsv
  try unfold sp5 at hsv
  try unfold sp6 at hsv
  try unfold Sp.none at hsv
  simp only at hsv
  clear hL
  refine hsv.out.mono ?_
  rintro en w3 ⟨rfl, F3, hL, hK⟩
  clear hsv
  clear hK
  have hb5 := heap_alloc_new w3 (.cells #[.int .i64 0, .int .i64 5, .int .i64 0, .int .i64 0, .int .i64 0, .int .i64 0] 23)
  have hF5 : ¬ F3 w3.heap.size := fun e => by have := hL.at_.lt _ e; omega
  replace hL := hL.non (Upd.alloc Non w3 (.cells #[.int .i64 0, .int .i64 5, .int .i64 0, .int .i64 0, .int .i64 0, .int .i64 0] 23))
  go_wp2_with fail
  have hsv := Lib.hid (ySave hL (by decide) ⟨0, 6, 0, 0, 0, 0⟩)
  rw [save_b] at hsv
  unfold SaveRet spV at hsv
  try unfold sp5 at hsv
  try unfold sp6 at hsv
  try unfold Sp.none at hsv
  simp only at hsv
  clear hL
  refine hsv.out.mono ?_
  rintro en w4 ⟨rfl, F4, hL, hK⟩
  clear hsv
  obtain ⟨hb5, hF5⟩ := keep_blk hK hb5 hF5
  clear hK
  replace hb5 := (Upd.alloc Non w4 (.cells #[.int .i64 1, .int .i64 6, .int .i64 0, .int .i64 0, .int .i64 0, .int .i64 0] 23)).heap hb5 fun h => h
  have hb8 := heap_alloc_new w4 (.cells #[.int .i64 1, .int .i64 6, .int .i64 0, .int .i64 0, .int .i64 0, .int .i64 0] 23)
  have hF8 : ¬ F4 w4.heap.size := fun e => by have := hL.at_.lt _ e; omega
  replace hL := hL.non (Upd.alloc Non w4 (.cells #[.int .i64 1, .int .i64 6, .int .i64 0, .int .i64 0, .int .i64 0, .int .i64 0] 23))
  go_wp2_with fail
  have hfi := Lib.hid (yFind hL.at_ (by decide))
  rw [find_c] at hfi
  unfold spV at hfi
  try unfold sp6 at hfi
  try unfold Sp.none at hfi
  simp only at hfi
  refine hfi.out.mono ?_
  rintro en w5 ⟨rfl, hu⟩
  clear hfi
  replace hL := hL.non hu
  replace hb5 := (Upd.alloc Non w5 (.cells #[.int .i64 1, .int .i64 6, .int .i64 0, .int .i64 0, .int .i64 0, .int .i64 0] 23)).heap (hu.heap hb5 fun h => h) fun h => h
  replace hb8 := (Upd.alloc Non w5 (.cells #[.int .i64 1, .int .i64 6, .int .i64 0, .int .i64 0, .int .i64 0, .int .i64 0] 23)).heap (hu.heap hb8 fun h => h) fun h => h
  have hb10 := heap_alloc_new w5 (.cells #[.int .i64 1, .int .i64 6, .int .i64 0, .int .i64 0, .int .i64 0, .int .i64 0] 23)
  have hF10 : ¬ F4 w5.heap.size := fun e => by have := hL.at_.lt _ e; omega
  replace hL := hL.non (Upd.alloc Non w5 (.cells #[.int .i64 1, .int .i64 6, .int .i64 0, .int .i64 0, .int .i64 0, .int .i64 0] 23))
  clear hu
  go_wp2_with fail
  have har := Lib.hid (lvArm hL 0 (by decide))
  rw [arm_0] at har
  simp only at har
  refine har.out.mono ?_
  clear hL
  rintro en w6 ⟨rfl, F6, hL, hK⟩
  clear har
  obtain ⟨hb5, hF5⟩ := keep_blk hK hb5 hF5
  obtain ⟨hb8, hF8⟩ := keep_blk hK hb8 hF8
  obtain ⟨hb10, hF10⟩ := keep_blk hK hb10 hF10
  clear hK
  go_wp2_with fail
  have hsv := Lib.hid (ySave hL (by decide) ⟨0, 7, 0, 0, 0, 0⟩)
  rw [save_c] at hsv
  unfold SaveRet spV at hsv
  try unfold sp5 at hsv
  try unfold sp6 at hsv
  try unfold Sp.none at hsv
  simp only at hsv
  clear hL
  refine hsv.out.mono ?_
  rintro en w7 ⟨rfl, F7, hL, hK⟩
  clear hsv
  obtain ⟨hb5, hF5⟩ := keep_blk hK hb5 hF5
  obtain ⟨hb8, hF8⟩ := keep_blk hK hb8 hF8
  obtain ⟨hb10, hF10⟩ := keep_blk hK hb10 hF10
  clear hK
  replace hb5 := (Upd.alloc Non w7 (.cells #[.int .i64 0, .int .i64 0, .int .i64 0, .int .i64 0, .int .i64 0, .int .i64 0] 23)).heap hb5 fun h => h
  replace hb8 := (Upd.alloc Non w7 (.cells #[.int .i64 0, .int .i64 0, .int .i64 0, .int .i64 0, .int .i64 0, .int .i64 0] 23)).heap hb8 fun h => h
  replace hb10 := (Upd.alloc Non w7 (.cells #[.int .i64 0, .int .i64 0, .int .i64 0, .int .i64 0, .int .i64 0, .int .i64 0] 23)).heap hb10 fun h => h
  replace hL := hL.non (Upd.alloc Non w7 (.cells #[.int .i64 0, .int .i64 0, .int .i64 0, .int .i64 0, .int .i64 0, .int .i64 0] 23))
  go_wp2_with fail
  have hcr := Lib.hid (lvCrash hL (by decide) (.slice none 0 0) [] (Has.nil _ _) (fun h => absurd h (by decide)))
  rw [crash_dead] at hcr
  refine hcr.out.mono ?_
  clear hL
  rintro en w8 ⟨rfl, F8, hL, hK⟩
  clear hcr
  obtain ⟨hb5, hF5⟩ := keep_blk hK hb5 hF5
  obtain ⟨hb8, hF8⟩ := keep_blk hK hb8 hF8
  obtain ⟨hb10, hF10⟩ := keep_blk hK hb10 hF10
  clear hK
  go_wp2_with fail
  have hfi := Lib.hid (yFind hL.at_ (by decide))
  rw [find_c] at hfi
  unfold spV at hfi
  try unfold sp6 at hfi
  try unfold Sp.none at hfi
  simp only at hfi
  refine hfi.out.mono ?_
  rintro en w9 ⟨rfl, hu⟩
  clear hfi
  replace hL := hL.non hu
  replace hb5 := (Upd.alloc Non w9 (.cells #[.int .i64 1, .int .i64 6, .int .i64 0, .int .i64 0, .int .i64 0, .int .i64 0] 23)).heap (hu.heap hb5 fun h => h) fun h => h
  replace hb8 := (Upd.alloc Non w9 (.cells #[.int .i64 1, .int .i64 6, .int .i64 0, .int .i64 0, .int .i64 0, .int .i64 0] 23)).heap (hu.heap hb8 fun h => h) fun h => h
  replace hb10 := (Upd.alloc Non w9 (.cells #[.int .i64 1, .int .i64 6, .int .i64 0, .int .i64 0, .int .i64 0, .int .i64 0] 23)).heap (hu.heap hb10 fun h => h) fun h => h
  have hU := hL.upd.then_alloc (.cells #[.int .i64 1, .int .i64 6, .int .i64 0, .int .i64 0, .int .i64 0, .int .i64 0] 23)
  clear hu hL hF5 hF8 hF10
  obtain ⟨x0, x1, x2, x3, x4, x5⟩ := cells6 hb5
  obtain ⟨y0, y1, y2, y3, y4, y5⟩ := cells6 hb8
  obtain ⟨z0, z1, z2, z3, z4, z5⟩ := cells6 hb10
  clear hb5 hb8 hb10
  go_wp2_with fail
  go_ret
  exact ⟨rfl, hU⟩

end Go.Proofs.Ytgdkgnolkepgdaa

namespace Go.Proofs.Ytgdkgnolkepgdaa
set_option maxRecDepth 100000
open Go.RowKit Go.Amb
set_option linter.unusedVariables false
set_option linter.unusedSimpArgs false
theorem sup_neqG (a b c d e f a' b' c' d' e' f' : Int) (w : World) : (binOp .neq 23 (.agg #[.int .i64 a, .int .i64 b, .int .i64 c, .int .i64 d, .int .i64 e, .int .i64 f]) (.agg #[.int .i64 a', .int .i64 b', .int .i64 c', .int .i64 d', .int .i64 e', .int .i64 f'])).run Try.prog w =
    .ok (.bool (!decide ((⟨a, b, c, d, e, f⟩ : Sp) = ⟨a', b', c', d', e', f'⟩))) w := by
  have hs : Program.stoodInHeld Try.prog 23 = false := by kernel_rfl
  rw [run_neq_struct, run_equalIn_agg w 9999 23 _ _ (by kernel_rfl) hs]
  simp only [Program.fieldsOf, Try.underlying23]
  simp only [Sp.mk.injEq]
  by_cases h1 : a = a'
  · by_cases h2 : b = b'
    · by_cases h3 : c = c'
      · by_cases h4 : d = d'
        · by_cases h5 : e = e'
          · by_cases h6 : f = f'
            · simp [Op.eqFields, go_sem, h1, h2, h3, h4, h5, h6]
            · simp [Op.eqFields, go_sem, h1, h2, h3, h4, h5, h6]
          · simp [Op.eqFields, go_sem, h1, h2, h3, h4, h5]
        · simp [Op.eqFields, go_sem, h1, h2, h3, h4]
      · simp [Op.eqFields, go_sem, h1, h2, h3]
    · simp [Op.eqFields, go_sem, h1, h2]
  · simp [Op.eqFields, go_sem, h1]
end Go.Proofs.Ytgdkgnolkepgdaa
