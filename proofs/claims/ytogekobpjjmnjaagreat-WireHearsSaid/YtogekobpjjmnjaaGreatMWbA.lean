/- The reference: Same, of what is the same (printed by gen/mkwba.py). -/
import Derived.Test.YtogekobpjjmnjaaGreatMWaD
import Derived.Deep.QuietTactic
namespace Go.Proofs.YtogekobpjjmnjaaGreat
open Go.RowKit Go.Amb
set_option linter.unusedVariables false
set_option linter.unusedSimpArgs false
set_option maxRecDepth 100000
attribute [local go_sem ↓] Go.wp_at_zero Go.wp_at_succ
theorem tagIn (d : Nat) (a b : Int) (w : World) : (Op.equalIn (d + 2) 25 (.agg #[.int .i64 a, .int .i64 b]) (.agg #[.int .i64 a, .int .i64 b])).run Tryz.prog w = .ok true w := by
  have hs : Program.stoodInHeld Tryz.prog 25 = false := by kernel_rfl
  rw [run_equalIn_agg w (d + 1) 25 _ _ (by kernel_rfl) hs]
  simp only [Program.fieldsOf, Tryz.underlying25]
  simp [Op.eqFields, go_sem]
theorem headIn (d : Nat) (z a b : Int) (g n : Bool) (w : World) : (Op.equalIn (d + 3) 27 (.agg #[.int .i64 z, .int .i64 a, .int .i64 b, .bool g, .bool n]) (.agg #[.int .i64 z, .int .i64 a, .int .i64 b, .bool g, .bool n])).run Tryz.prog w = .ok true w := by
  have hs : Program.stoodInHeld Tryz.prog 27 = false := by kernel_rfl
  have hs2 : Program.stoodInHeld Tryz.prog 25 = false := by kernel_rfl
  have he := tagIn d a b w
  rw [run_equalIn_agg w (d + 2) 27 _ _ (by kernel_rfl) hs]
  simp only [Program.fieldsOf, Tryz.underlying27]
  simp [Op.eqFields, go_sem, he]
theorem tagS_guard (op : BinOp) (x y : Operand) (xs ys : Array Value) (w : World) : (eqGuard op 25 x y (.agg xs) (.agg ys)).run Tryz.prog w = .ok () w := run_eqGuard_agg w op 25 x y xs ys (by kernel_rfl)
theorem tagS_same (re im : Int) (w : World) : (binOp .eql 25 (.agg #[.int .i64 re, .int .i64 im]) (.agg #[.int .i64 re, .int .i64 im])).run Tryz.prog w = .ok (.bool true) w := by
  have hs : Program.stoodInHeld Tryz.prog 25 = false := by kernel_rfl
  rw [run_eql_struct, run_equalIn_agg w 9999 25 _ _ (by kernel_rfl) hs]
  simp only [Program.fieldsOf, Tryz.underlying25]
  simp [Op.eqFields, go_sem]
theorem condS_guard (op : BinOp) (x y : Operand) (xs ys : Array Value) (w : World) : (eqGuard op 83 x y (.agg xs) (.agg ys)).run Tryz.prog w = .ok () w := run_eqGuard_agg w op 83 x y xs ys (by kernel_rfl)
theorem condS_same (k re im : Int) (w : World) : (binOp .eql 83 (.agg #[.int .i64 k, .int .i64 re, .int .i64 im]) (.agg #[.int .i64 k, .int .i64 re, .int .i64 im])).run Tryz.prog w = .ok (.bool true) w := by
  have hs : Program.stoodInHeld Tryz.prog 83 = false := by kernel_rfl
  have he := tagIn 9997 re im w
  rw [run_eql_struct, run_equalIn_agg w 9999 83 _ _ (by kernel_rfl) hs]
  simp only [Program.fieldsOf, Tryz.underlying83]
  simp [Op.eqFields, go_sem, he]
theorem objS_guard (op : BinOp) (x y : Operand) (xs ys : Array Value) (w : World) : (eqGuard op 29 x y (.agg xs) (.agg ys)).run Tryz.prog w = .ok () w := run_eqGuard_agg w op 29 x y xs ys (by kernel_rfl)
theorem objS_same (v : ByteArray) (size re im : Int) (gone null : Bool) (b : ByteArray) (w : World) : (binOp .eql 29 (.agg #[.string v, .int .i64 size, .int .i64 re, .int .i64 im, .bool gone, .bool null, .string b]) (.agg #[.string v, .int .i64 size, .int .i64 re, .int .i64 im, .bool gone, .bool null, .string b])).run Tryz.prog w = .ok (.bool true) w := by
  have hs : Program.stoodInHeld Tryz.prog 29 = false := by kernel_rfl
  have he := headIn 9996 size re im gone null w
  rw [run_eql_struct, run_equalIn_agg w 9999 29 _ _ (by kernel_rfl) hs]
  simp only [Program.fieldsOf, Tryz.underlying29]
  simp [Op.eqFields, go_sem, he]
theorem lnS_guard (op : BinOp) (x y : Operand) (xs ys : Array Value) (w : World) : (eqGuard op 96 x y (.agg xs) (.agg ys)).run Tryz.prog w = .ok () w := run_eqGuard_agg w op 96 x y xs ys (by kernel_rfl)
theorem lnS_same (v : ByteArray) (id : Int) (lat : Bool) (size re im : Int) (gone null : Bool) (w : World) : (binOp .neq 96 (.agg #[.string v, .int .i64 id, .bool lat, .int .i64 size, .int .i64 re, .int .i64 im, .bool gone, .bool null]) (.agg #[.string v, .int .i64 id, .bool lat, .int .i64 size, .int .i64 re, .int .i64 im, .bool gone, .bool null])).run Tryz.prog w = .ok (.bool false) w := by
  have hs : Program.stoodInHeld Tryz.prog 96 = false := by kernel_rfl
  have he := headIn 9996 size re im gone null w
  rw [run_neq_struct, run_equalIn_agg w 9999 96 _ _ (by kernel_rfl) hs]
  simp only [Program.fieldsOf, Tryz.underlying96]
  simp [Op.eqFields, go_sem, he]
theorem upS_guard (op : BinOp) (x y : Operand) (xs ys : Array Value) (w : World) : (eqGuard op 59 x y (.agg xs) (.agg ys)).run Tryz.prog w = .ok () w := run_eqGuard_agg w op 59 x y xs ys (by kernel_rfl)
theorem upS_same (v : ByteArray) (id : Int) (w : World) : (binOp .neq 59 (.agg #[.string v, .int .i64 id]) (.agg #[.string v, .int .i64 id])).run Tryz.prog w = .ok (.bool false) w := by
  have hs : Program.stoodInHeld Tryz.prog 59 = false := by kernel_rfl
  rw [run_neq_struct, run_equalIn_agg w 9999 59 _ _ (by kernel_rfl) hs]
  simp only [Program.fieldsOf, Tryz.underlying59]
  simp [Op.eqFields, go_sem]
theorem ptS_guard (op : BinOp) (x y : Operand) (xs ys : Array Value) (w : World) : (eqGuard op 61 x y (.agg xs) (.agg ys)).run Tryz.prog w = .ok () w := run_eqGuard_agg w op 61 x y xs ys (by kernel_rfl)
theorem ptS_same (n : Int) (size re im : Int) (gone null : Bool) (w : World) : (binOp .neq 61 (.agg #[.int .i64 n, .int .i64 size, .int .i64 re, .int .i64 im, .bool gone, .bool null]) (.agg #[.int .i64 n, .int .i64 size, .int .i64 re, .int .i64 im, .bool gone, .bool null])).run Tryz.prog w = .ok (.bool false) w := by
  have hs : Program.stoodInHeld Tryz.prog 61 = false := by kernel_rfl
  have he := headIn 9996 size re im gone null w
  rw [run_neq_struct, run_equalIn_agg w 9999 61 _ _ (by kernel_rfl) hs]
  simp only [Program.fieldsOf, Tryz.underlying61]
  simp [Op.eqFields, go_sem, he]
set_option maxHeartbeats 2000000 in
theorem sTexts (va vb : Value) (l : List (List UInt8)) (w : World) (hA : Txts w va l) (hB : Txts w vb l) : Calls Tryz.prog 32 #[va, vb] w (Ret (.bool true) w) := by
  obtain ⟨aa, ac, rfl, hlc, hcm, hx⟩ := has1 hA
  obtain ⟨ba, bc_, rfl, -, -, hy⟩ := has1 hB
  replace hx := fun k (hk : k < l.length) => hx k (by rw [List.length_map]; exact hk) hk
  replace hy := fun k (hk : k < l.length) => hy k (by rw [List.length_map]; exact hk) hk
  simp only [List.getElem_map] at hx hy
  unfold maxLen at hcm
  replace hx := Lib.hid hx
  replace hy := Lib.hid hy
  clear hA hB
  go_enter Tryz.func32, Tryz.ntmps32
  go_wp2_with fail
  go_loopw [5] (fun iv wr => ∃ k : Nat, iv = .int .i64 (k : Int) ∧ k ≤ l.length ∧ Upd Non w wr) (fun iv _ => l.length - (intOf iv).toNat)
  case atStart => exact ⟨0, rfl, Nat.zero_le _, Upd.refl _ _⟩
  case round =>
    obtain ⟨k, rfl, hk, hU⟩ := hrel
    by_cases hlt : k < l.length
    · have hltI : (k : Int) < (l.length : Int) := by omega
      have hk0 : (0 : Int) ≤ (k : Int) := by omega
      obtain ⟨g, off, rfl, x0⟩ := hx.out k hlt
      obtain ⟨g2, off2, rfl, y0⟩ := hy.out k hlt
      generalize l[k] = y at *
      replace x0 := hU.cell x0 fun h => h
      replace y0 := hU.cell y0 fun h => h
      go_wp2_with fail
      go_quiet (fail)
      go_wp2_with fail
      go_roundw
      case rel => exact ⟨k + 1, by go_num, by omega, hU.then_drewN _⟩
      case measure => simp [intOf]; omega
    · have hltI : ¬ (k : Int) < (l.length : Int) := by omega
      obtain rfl : k = l.length := by omega
      go_wp2_with fail
      go_ret
      exact ⟨rfl, hU⟩
set_option maxHeartbeats 2000000 in
theorem sUps (va vb : Value) (l : List Up) (w : World) (hA : Ups w va l) (hB : Ups w vb l) : Calls Tryz.prog 35 #[va, vb] w (Ret (.bool true) w) := by
  obtain ⟨aa, ac, rfl, hlc, hcm, hx⟩ := has_rows (f := upC) (m := 2) (fun _ => rfl) hA
  obtain ⟨ba, bc_, rfl, -, -, hy⟩ := has_rows (f := upC) (m := 2) (fun _ => rfl) hB
  unfold maxLen at hcm
  replace hx := Lib.hid hx
  replace hy := Lib.hid hy
  have hgu := upS_guard .neq
  have hne := upS_same
  clear hA hB
  go_enter Tryz.func35, Tryz.ntmps35
  go_wp2_with fail
  go_loopw [5] (fun iv wr => ∃ k : Nat, iv = .int .i64 (k : Int) ∧ k ≤ l.length ∧ Upd Non w wr) (fun iv _ => l.length - (intOf iv).toNat)
  case atStart => exact ⟨0, rfl, Nat.zero_le _, Upd.refl _ _⟩
  case round =>
    obtain ⟨k, rfl, hk, hU⟩ := hrel
    by_cases hlt : k < l.length
    · have hltI : (k : Int) < (l.length : Int) := by omega
      have hk0 : (0 : Int) ≤ (k : Int) := by omega
      obtain ⟨g, off, rfl, xq⟩ := hx.out k hlt
      obtain ⟨g2, off2, rfl, yq⟩ := hy.out k hlt
      generalize l[k] = y at *
      obtain ⟨ob, id⟩ := y
      (try dsimp only at xq yq)
      have x0 := hU.cell (show w.cell? ⟨g, off + k * 2, none⟩ = some (.string ⟨ob.toArray⟩) from xq 0 _ rfl) fun h => h
      have x1 := hU.cell (show w.cell? ⟨g, off + k * 2 + 1, none⟩ = some (.int .i64 id) from xq 1 _ rfl) fun h => h
      have y0 := hU.cell (show w.cell? ⟨g2, off2 + k * 2, none⟩ = some (.string ⟨ob.toArray⟩) from yq 0 _ rfl) fun h => h
      have y1 := hU.cell (show w.cell? ⟨g2, off2 + k * 2 + 1, none⟩ = some (.int .i64 id) from yq 1 _ rfl) fun h => h
      clear xq yq
      go_wp2_with fail
      go_quiet (fail)
      go_wp2_with fail
      go_roundw
      case rel => exact ⟨k + 1, by go_num, by omega, hU.then_drewN _⟩
      case measure => simp [intOf]; omega
    · have hltI : ¬ (k : Int) < (l.length : Int) := by omega
      obtain rfl : k = l.length := by omega
      go_wp2_with fail
      go_ret
      exact ⟨rfl, hU⟩
set_option maxHeartbeats 2000000 in
theorem sPts (va vb : Value) (l : List Pt) (w : World) (hA : Pts w va l) (hB : Pts w vb l) : Calls Tryz.prog 36 #[va, vb] w (Ret (.bool true) w) := by
  obtain ⟨aa, ac, rfl, hlc, hcm, hx⟩ := has_rows (f := ptC) (m := 6) (fun _ => rfl) hA
  obtain ⟨ba, bc_, rfl, -, -, hy⟩ := has_rows (f := ptC) (m := 6) (fun _ => rfl) hB
  unfold maxLen at hcm
  replace hx := Lib.hid hx
  replace hy := Lib.hid hy
  have hgu := ptS_guard .neq
  have hne := ptS_same
  clear hA hB
  go_enter Tryz.func36, Tryz.ntmps36
  go_wp2_with fail
  go_loopw [5] (fun iv wr => ∃ k : Nat, iv = .int .i64 (k : Int) ∧ k ≤ l.length ∧ Upd Non w wr) (fun iv _ => l.length - (intOf iv).toNat)
  case atStart => exact ⟨0, rfl, Nat.zero_le _, Upd.refl _ _⟩
  case round =>
    obtain ⟨k, rfl, hk, hU⟩ := hrel
    by_cases hlt : k < l.length
    · have hltI : (k : Int) < (l.length : Int) := by omega
      have hk0 : (0 : Int) ≤ (k : Int) := by omega
      obtain ⟨g, off, rfl, xq⟩ := hx.out k hlt
      obtain ⟨g2, off2, rfl, yq⟩ := hy.out k hlt
      generalize l[k] = y at *
      obtain ⟨pn, ⟨sz, re, im, go_, nu_⟩⟩ := y
      (try dsimp only at xq yq)
      have x0 := hU.cell (show w.cell? ⟨g, off + k * 6, none⟩ = some (.int .i64 pn) from xq 0 _ rfl) fun h => h
      have x1 := hU.cell (show w.cell? ⟨g, off + k * 6 + 1, none⟩ = some (.int .i64 sz) from xq 1 _ rfl) fun h => h
      have x2 := hU.cell (show w.cell? ⟨g, off + k * 6 + 2, none⟩ = some (.int .i64 re) from xq 2 _ rfl) fun h => h
      have x3 := hU.cell (show w.cell? ⟨g, off + k * 6 + 3, none⟩ = some (.int .i64 im) from xq 3 _ rfl) fun h => h
      have x4 := hU.cell (show w.cell? ⟨g, off + k * 6 + 4, none⟩ = some (.bool go_) from xq 4 _ rfl) fun h => h
      have x5 := hU.cell (show w.cell? ⟨g, off + k * 6 + 5, none⟩ = some (.bool nu_) from xq 5 _ rfl) fun h => h
      have y0 := hU.cell (show w.cell? ⟨g2, off2 + k * 6, none⟩ = some (.int .i64 pn) from yq 0 _ rfl) fun h => h
      have y1 := hU.cell (show w.cell? ⟨g2, off2 + k * 6 + 1, none⟩ = some (.int .i64 sz) from yq 1 _ rfl) fun h => h
      have y2 := hU.cell (show w.cell? ⟨g2, off2 + k * 6 + 2, none⟩ = some (.int .i64 re) from yq 2 _ rfl) fun h => h
      have y3 := hU.cell (show w.cell? ⟨g2, off2 + k * 6 + 3, none⟩ = some (.int .i64 im) from yq 3 _ rfl) fun h => h
      have y4 := hU.cell (show w.cell? ⟨g2, off2 + k * 6 + 4, none⟩ = some (.bool go_) from yq 4 _ rfl) fun h => h
      have y5 := hU.cell (show w.cell? ⟨g2, off2 + k * 6 + 5, none⟩ = some (.bool nu_) from yq 5 _ rfl) fun h => h
      clear xq yq
      go_wp2_with fail
      go_quiet (fail)
      go_wp2_with fail
      go_roundw
      case rel => exact ⟨k + 1, by go_num, by omega, hU.then_drewN _⟩
      case measure => simp [intOf]; omega
    · have hltI : ¬ (k : Int) < (l.length : Int) := by omega
      obtain rfl : k = l.length := by omega
      go_wp2_with fail
      go_ret
      exact ⟨rfl, hU⟩
/-- Two boxes of the call's own. -/
def Bx2 (A B : Array Value) (w w1 : World) : Prop := (∀ j v, A[j]? = some v → w1.cell? ⟨w.heap.size, j, none⟩ = some v) ∧ (∀ j v, B[j]? = some v → w1.cell? ⟨w.heap.size + 1, j, none⟩ = some v) ∧ Upd Non w w1
theorem Bx2.start (A B : Array Value) (t t2 : TypeId) (w : World) : Bx2 A B w ((w.alloc (.cells A t)).alloc (.cells B t2)) :=
  have h := (Upd.refl Non ((w.alloc (.cells A t)).alloc (.cells B t2))).own2 (fun _ h => h.elim)
  ⟨fun j v e => (h.1 j).trans e, fun j v e => (h.2.2.1 j).trans e, h.2.2.2.2.2.2⟩
theorem Bx2.next {A B : Array Value} {w w1 w2 : World} (h : Bx2 A B w w1) (hu : Upd Non w1 w2) : Bx2 A B w w2 :=
  ⟨fun j v e => hu.cell (h.1 j v e) fun h => h, fun j v e => hu.cell (h.2.1 j v e) fun h => h, h.2.2.trans hu fun _ _ h => h⟩
theorem lnsame (va vb : Value) (l : List Ln) (ob_ : List UInt8) (id : Int) (more : Bool) (w : World) : True := trivial
set_option maxHeartbeats 4000000 in
theorem sLns (va vb : Value) (l : List Ln) (lo : List UInt8) (lid : Int) (more : Bool) (w : World) (hA : Lns w va l) (hB : Lns w vb l) : Calls Tryz.prog 34 #[lnsV va lo lid more, lnsV vb lo lid more] w (Ret (.bool true) w) := by
  obtain ⟨aa, ac, rfl, hlc, hcm, hx⟩ := has_rows (f := lnC) (m := 8) (fun _ => rfl) hA
  obtain ⟨ba, bc_, rfl, -, -, hy⟩ := has_rows (f := lnC) (m := 8) (fun _ => rfl) hB
  unfold maxLen at hcm
  replace hx := Lib.hid hx
  replace hy := Lib.hid hy
  have hgu := lnS_guard .neq
  have hne := lnS_same
  clear hA hB
  unfold lnsV
  have hst := Bx2.start #[.slice aa l.length ac, .string ⟨lo.toArray⟩, .int .i64 lid, .bool more] #[.slice ba l.length bc_, .string ⟨lo.toArray⟩, .int .i64 lid, .bool more] 35 35 w
  go_enter Tryz.func34, Tryz.ntmps34
  go_wp2_with fail
  go_loopw [5] (fun iv wr => ∃ k : Nat, iv = .int .i64 (k : Int) ∧ k ≤ l.length ∧ Bx2 #[.slice aa l.length ac, .string ⟨lo.toArray⟩, .int .i64 lid, .bool more] #[.slice ba l.length bc_, .string ⟨lo.toArray⟩, .int .i64 lid, .bool more] w wr) (fun iv _ => l.length - (intOf iv).toNat)
  case atStart => exact ⟨0, rfl, Nat.zero_le _, hst⟩
  case round =>
    clear hst
    obtain ⟨k, rfl, hk, hQ⟩ := hrel
    have hU := hQ.2.2
    have p0 : wr.cell? ⟨w.heap.size, 0, none⟩ = some (.slice aa l.length ac) := hQ.1 0 _ rfl
    have p1 : wr.cell? ⟨w.heap.size + 1, 0, none⟩ = some (.slice ba l.length bc_) := hQ.2.1 0 _ rfl
    by_cases hlt : k < l.length
    · have hltI : (k : Int) < (l.length : Int) := by omega
      have hk0 : (0 : Int) ≤ (k : Int) := by omega
      obtain ⟨g, off, rfl, xq⟩ := hx.out k hlt
      obtain ⟨g2, off2, rfl, yq⟩ := hy.out k hlt
      generalize l[k] = y at *
      obtain ⟨ob, xid, lat, ⟨sz, re, im, go_, nu_⟩⟩ := y
      (try dsimp only at xq yq)
      have x0 := hU.cell (show w.cell? ⟨g, off + k * 8, none⟩ = some (.string ⟨ob.toArray⟩) from xq 0 _ rfl) fun h => h
      have x1 := hU.cell (show w.cell? ⟨g, off + k * 8 + 1, none⟩ = some (.int .i64 xid) from xq 1 _ rfl) fun h => h
      have x2 := hU.cell (show w.cell? ⟨g, off + k * 8 + 2, none⟩ = some (.bool lat) from xq 2 _ rfl) fun h => h
      have x3 := hU.cell (show w.cell? ⟨g, off + k * 8 + 3, none⟩ = some (.int .i64 sz) from xq 3 _ rfl) fun h => h
      have x4 := hU.cell (show w.cell? ⟨g, off + k * 8 + 4, none⟩ = some (.int .i64 re) from xq 4 _ rfl) fun h => h
      have x5 := hU.cell (show w.cell? ⟨g, off + k * 8 + 5, none⟩ = some (.int .i64 im) from xq 5 _ rfl) fun h => h
      have x6 := hU.cell (show w.cell? ⟨g, off + k * 8 + 6, none⟩ = some (.bool go_) from xq 6 _ rfl) fun h => h
      have x7 := hU.cell (show w.cell? ⟨g, off + k * 8 + 7, none⟩ = some (.bool nu_) from xq 7 _ rfl) fun h => h
      have y0 := hU.cell (show w.cell? ⟨g2, off2 + k * 8, none⟩ = some (.string ⟨ob.toArray⟩) from yq 0 _ rfl) fun h => h
      have y1 := hU.cell (show w.cell? ⟨g2, off2 + k * 8 + 1, none⟩ = some (.int .i64 xid) from yq 1 _ rfl) fun h => h
      have y2 := hU.cell (show w.cell? ⟨g2, off2 + k * 8 + 2, none⟩ = some (.bool lat) from yq 2 _ rfl) fun h => h
      have y3 := hU.cell (show w.cell? ⟨g2, off2 + k * 8 + 3, none⟩ = some (.int .i64 sz) from yq 3 _ rfl) fun h => h
      have y4 := hU.cell (show w.cell? ⟨g2, off2 + k * 8 + 4, none⟩ = some (.int .i64 re) from yq 4 _ rfl) fun h => h
      have y5 := hU.cell (show w.cell? ⟨g2, off2 + k * 8 + 5, none⟩ = some (.int .i64 im) from yq 5 _ rfl) fun h => h
      have y6 := hU.cell (show w.cell? ⟨g2, off2 + k * 8 + 6, none⟩ = some (.bool go_) from yq 6 _ rfl) fun h => h
      have y7 := hU.cell (show w.cell? ⟨g2, off2 + k * 8 + 7, none⟩ = some (.bool nu_) from yq 7 _ rfl) fun h => h
      clear xq yq
      go_wp2_with fail
      go_quiet (fail)
      go_wp2_with fail
      go_roundw
      case rel => exact ⟨k + 1, by go_num, by omega, hQ.next (Upd.drewN Non _ _)⟩
      case measure => simp [intOf]; omega
    · have hltI : ¬ (k : Int) < (l.length : Int) := by omega
      obtain rfl : k = l.length := by omega
      go_wp2_with fail
      go_ret
      exact ⟨rfl, hU⟩
theorem sListing (va vb va' vb' : Value) (n p : List (List UInt8)) (x : List UInt8) (more : Bool) (w : World) (hA : Txts w va n) (hA' : Txts w va' n) (hB : Txts w vb p) (hB' : Txts w vb' p) :
    Calls Tryz.prog 33 #[.agg #[va, vb, .string ⟨x.toArray⟩, .bool more], .agg #[va', vb', .string ⟨x.toArray⟩, .bool more]] w (Ret (.bool true) w) := by
  have cN := Lib.hid (fun w' (hu : Upd Non w w') => sTexts va va' n w' (hA.non hu) (hA'.non hu))
  have cP := Lib.hid (fun w' (hu : Upd Non w w') => sTexts vb vb' p w' (hB.non hu) (hB'.non hu))
  obtain ⟨_, a1, c1, rfl, -⟩ := hA
  obtain ⟨_, a2, c2, rfl, -⟩ := hA'
  obtain ⟨_, a3, c3, rfl, -⟩ := hB
  obtain ⟨_, a4, c4, rfl, -⟩ := hB'
  have hst := Bx2.start #[.slice a1 n.length c1, .slice a3 p.length c3, .string ⟨x.toArray⟩, .bool more] #[.slice a2 n.length c2, .slice a4 p.length c4, .string ⟨x.toArray⟩, .bool more] 32 32 w
  go_enter Tryz.func33, Tryz.ntmps33
  go_wp2_with fail
  refine (cN.out _ hst.2.2).mono ?_
  rintro e w1 ⟨rfl, hu1⟩
  have h1 := hst.next hu1
  have x0 : w1.cell? ⟨w.heap.size, 1, none⟩ = some (.slice a3 p.length c3) := h1.1 1 _ rfl
  have y0 : w1.cell? ⟨w.heap.size + 1, 1, none⟩ = some (.slice a4 p.length c4) := h1.2.1 1 _ rfl
  clear hu1 hst
  simp only []
  go_wp2_with fail
  refine (cP.out _ h1.2.2).mono ?_
  rintro e w2 ⟨rfl, hu2⟩
  have h2 := h1.next hu2
  have x2 : w2.cell? ⟨w.heap.size, 2, none⟩ = some (.string ⟨x.toArray⟩) := h2.1 2 _ rfl
  have y2 : w2.cell? ⟨w.heap.size + 1, 2, none⟩ = some (.string ⟨x.toArray⟩) := h2.2.1 2 _ rfl
  have x3 : w2.cell? ⟨w.heap.size, 3, none⟩ = some (.bool more) := h2.1 3 _ rfl
  have y3 : w2.cell? ⟨w.heap.size + 1, 3, none⟩ = some (.bool more) := h2.2.1 3 _ rfl
  clear hu2 h1 x0 y0
  simp only []
  go_wp2_with fail
  go_ret
  exact ⟨by simp, h2.2.2⟩
set_option maxHeartbeats 8000000 in
theorem sAnswer (r0 : Rs) (S T : Sl) (w : World) (hA : RsAt w r0 S) (hB : RsAt w r0 T) : Calls Tryz.prog 6 #[rsV r0 S, rsV r0 T] w (Ret (.bool true) w) := by
  have c1 := Lib.hid (fun w' (hu : Upd Non w w') => sTexts S.n T.n r0.names w' (hA.non hu).n (hB.non hu).n)
  have c2 := Lib.hid (fun w' (hu : Upd Non w w') => sListing S.ln S.lp T.ln T.lp r0.lnames r0.lpre r0.next r0.more w' (hA.non hu).ln (hB.non hu).ln (hA.non hu).lp (hB.non hu).lp)
  have c3 := Lib.hid (fun w' (hu : Upd Non w w') => sLns S.l T.l r0.lines r0.lobject r0.lid r0.lmore w' (hA.non hu).l (hB.non hu).l)
  have c4 := Lib.hid (fun w' (hu : Upd Non w w') => sUps S.u T.u r0.ups w' (hA.non hu).u (hB.non hu).u)
  have c5 := Lib.hid (fun w' (hu : Upd Non w w') => sPts S.p T.p r0.parts w' (hA.non hu).p (hB.non hu).p)
  obtain ⟨n1, n2, n3, n4, n5, n6⟩ := S
  obtain ⟨o1, o2, o3, o4, o5, o6⟩ := T
  obtain ⟨h1, h2, h3, h4, h5, h6⟩ := hA
  obtain ⟨i1, i2, i3, i4, i5, i6⟩ := hB
  dsimp only at *
  obtain ⟨_, a1, ac1, rfl, -⟩ := h1
  obtain ⟨_, a2, ac2, rfl, -⟩ := h2
  obtain ⟨_, a3, ac3, rfl, -⟩ := h3
  obtain ⟨_, a4, ac4, rfl, -⟩ := h4
  obtain ⟨_, a5, ac5, rfl, -⟩ := h5
  obtain ⟨_, a6, ac6, rfl, -⟩ := h6
  obtain ⟨_, b1, bc1, rfl, -⟩ := i1
  obtain ⟨_, b2, bc2, rfl, -⟩ := i2
  obtain ⟨_, b3, bc3, rfl, -⟩ := i3
  obtain ⟨_, b4, bc4, rfl, -⟩ := i4
  obtain ⟨_, b5, bc5, rfl, -⟩ := i5
  obtain ⟨_, b6, bc6, rfl, -⟩ := i6
  obtain ⟨err, id, time, text, re, im, version, ⟨size, hre, him, gone, null⟩, body, names, lnames, lpre, next, more, lines, lobject, lid, lmore, ups, parts⟩ := r0
  unfold lnsV at c3
  unfold rsV rsC
  dsimp only at *
  have g1 := tagS_guard .eql
  have e1 := tagS_same
  have g2 := objS_guard .eql
  have e2 := objS_same
  have hst := Bx2.start #[.int .i64 err, .int .i64 id, .int .i64 time, .string ⟨text.toArray⟩, .int .i64 re, .int .i64 im, .string ⟨version.toArray⟩, .int .i64 size, .int .i64 hre, .int .i64 him, .bool gone, .bool null, .string ⟨body.toArray⟩, .slice a1 names.length ac1, .slice a2 lnames.length ac2, .slice a3 lpre.length ac3, .string ⟨next.toArray⟩, .bool more, .slice a4 lines.length ac4, .string ⟨lobject.toArray⟩, .int .i64 lid, .bool lmore, .slice a5 ups.length ac5, .slice a6 parts.length ac6] #[.int .i64 err, .int .i64 id, .int .i64 time, .string ⟨text.toArray⟩, .int .i64 re, .int .i64 im, .string ⟨version.toArray⟩, .int .i64 size, .int .i64 hre, .int .i64 him, .bool gone, .bool null, .string ⟨body.toArray⟩, .slice b1 names.length bc1, .slice b2 lnames.length bc2, .slice b3 lpre.length bc3, .string ⟨next.toArray⟩, .bool more, .slice b4 lines.length bc4, .string ⟨lobject.toArray⟩, .int .i64 lid, .bool lmore, .slice b5 ups.length bc5, .slice b6 parts.length bc6] 39 39 w
  obtain ⟨W, hW⟩ : ∃ W, (w.alloc (.cells #[.int .i64 err, .int .i64 id, .int .i64 time, .string ⟨text.toArray⟩, .int .i64 re, .int .i64 im, .string ⟨version.toArray⟩, .int .i64 size, .int .i64 hre, .int .i64 him, .bool gone, .bool null, .string ⟨body.toArray⟩, .slice a1 names.length ac1, .slice a2 lnames.length ac2, .slice a3 lpre.length ac3, .string ⟨next.toArray⟩, .bool more, .slice a4 lines.length ac4, .string ⟨lobject.toArray⟩, .int .i64 lid, .bool lmore, .slice a5 ups.length ac5, .slice a6 parts.length ac6] 39)).alloc (.cells #[.int .i64 err, .int .i64 id, .int .i64 time, .string ⟨text.toArray⟩, .int .i64 re, .int .i64 im, .string ⟨version.toArray⟩, .int .i64 size, .int .i64 hre, .int .i64 him, .bool gone, .bool null, .string ⟨body.toArray⟩, .slice b1 names.length bc1, .slice b2 lnames.length bc2, .slice b3 lpre.length bc3, .string ⟨next.toArray⟩, .bool more, .slice b4 lines.length bc4, .string ⟨lobject.toArray⟩, .int .i64 lid, .bool lmore, .slice b5 ups.length bc5, .slice b6 parts.length bc6] 39) = W := ⟨_, rfl⟩
  rw [hW] at hst
  have x0 : W.cell? ⟨w.heap.size, 0, none⟩ = some (.int .i64 err) := hst.1 0 _ rfl
  have y0 : W.cell? ⟨w.heap.size + 1, 0, none⟩ = some (.int .i64 err) := hst.2.1 0 _ rfl
  have x1 : W.cell? ⟨w.heap.size, 1, none⟩ = some (.int .i64 id) := hst.1 1 _ rfl
  have y1 : W.cell? ⟨w.heap.size + 1, 1, none⟩ = some (.int .i64 id) := hst.2.1 1 _ rfl
  have x2 : W.cell? ⟨w.heap.size, 2, none⟩ = some (.int .i64 time) := hst.1 2 _ rfl
  have y2 : W.cell? ⟨w.heap.size + 1, 2, none⟩ = some (.int .i64 time) := hst.2.1 2 _ rfl
  have x3 : W.cell? ⟨w.heap.size, 3, none⟩ = some (.string ⟨text.toArray⟩) := hst.1 3 _ rfl
  have y3 : W.cell? ⟨w.heap.size + 1, 3, none⟩ = some (.string ⟨text.toArray⟩) := hst.2.1 3 _ rfl
  have x4 : W.cell? ⟨w.heap.size, 4, none⟩ = some (.int .i64 re) := hst.1 4 _ rfl
  have y4 : W.cell? ⟨w.heap.size + 1, 4, none⟩ = some (.int .i64 re) := hst.2.1 4 _ rfl
  have x5 : W.cell? ⟨w.heap.size, 5, none⟩ = some (.int .i64 im) := hst.1 5 _ rfl
  have y5 : W.cell? ⟨w.heap.size + 1, 5, none⟩ = some (.int .i64 im) := hst.2.1 5 _ rfl
  have x6 : W.cell? ⟨w.heap.size, 6, none⟩ = some (.string ⟨version.toArray⟩) := hst.1 6 _ rfl
  have y6 : W.cell? ⟨w.heap.size + 1, 6, none⟩ = some (.string ⟨version.toArray⟩) := hst.2.1 6 _ rfl
  have x7 : W.cell? ⟨w.heap.size, 7, none⟩ = some (.int .i64 size) := hst.1 7 _ rfl
  have y7 : W.cell? ⟨w.heap.size + 1, 7, none⟩ = some (.int .i64 size) := hst.2.1 7 _ rfl
  have x8 : W.cell? ⟨w.heap.size, 8, none⟩ = some (.int .i64 hre) := hst.1 8 _ rfl
  have y8 : W.cell? ⟨w.heap.size + 1, 8, none⟩ = some (.int .i64 hre) := hst.2.1 8 _ rfl
  have x9 : W.cell? ⟨w.heap.size, 9, none⟩ = some (.int .i64 him) := hst.1 9 _ rfl
  have y9 : W.cell? ⟨w.heap.size + 1, 9, none⟩ = some (.int .i64 him) := hst.2.1 9 _ rfl
  have x10 : W.cell? ⟨w.heap.size, 10, none⟩ = some (.bool gone) := hst.1 10 _ rfl
  have y10 : W.cell? ⟨w.heap.size + 1, 10, none⟩ = some (.bool gone) := hst.2.1 10 _ rfl
  have x11 : W.cell? ⟨w.heap.size, 11, none⟩ = some (.bool null) := hst.1 11 _ rfl
  have y11 : W.cell? ⟨w.heap.size + 1, 11, none⟩ = some (.bool null) := hst.2.1 11 _ rfl
  have x12 : W.cell? ⟨w.heap.size, 12, none⟩ = some (.string ⟨body.toArray⟩) := hst.1 12 _ rfl
  have y12 : W.cell? ⟨w.heap.size + 1, 12, none⟩ = some (.string ⟨body.toArray⟩) := hst.2.1 12 _ rfl
  have x13 : W.cell? ⟨w.heap.size, 13, none⟩ = some (.slice a1 names.length ac1) := hst.1 13 _ rfl
  have y13 : W.cell? ⟨w.heap.size + 1, 13, none⟩ = some (.slice b1 names.length bc1) := hst.2.1 13 _ rfl
  go_enter Tryz.func6, Tryz.ntmps6
  dsimp only [List.append]
  go_wp2_with fail
  refine (c1.out _ hst.2.2).mono ?_
  rintro e w1 ⟨rfl, hu⟩
  have q1 := hst.next hu
  clear hu hst hW g1 e1 g2 e2
  clear x0 y0 x1 y1 x2 y2 x3 y3 x4 y4 x5 y5 x6 y6 x7 y7 x8 y8 x9 y9 x10 y10 x11 y11 x12 y12 x13 y13
  have x14 : w1.cell? ⟨w.heap.size, 14, none⟩ = some (.slice a2 lnames.length ac2) := q1.1 14 _ rfl
  have y14 : w1.cell? ⟨w.heap.size + 1, 14, none⟩ = some (.slice b2 lnames.length bc2) := q1.2.1 14 _ rfl
  have x15 : w1.cell? ⟨w.heap.size, 15, none⟩ = some (.slice a3 lpre.length ac3) := q1.1 15 _ rfl
  have y15 : w1.cell? ⟨w.heap.size + 1, 15, none⟩ = some (.slice b3 lpre.length bc3) := q1.2.1 15 _ rfl
  have x16 : w1.cell? ⟨w.heap.size, 16, none⟩ = some (.string ⟨next.toArray⟩) := q1.1 16 _ rfl
  have y16 : w1.cell? ⟨w.heap.size + 1, 16, none⟩ = some (.string ⟨next.toArray⟩) := q1.2.1 16 _ rfl
  have x17 : w1.cell? ⟨w.heap.size, 17, none⟩ = some (.bool more) := q1.1 17 _ rfl
  have y17 : w1.cell? ⟨w.heap.size + 1, 17, none⟩ = some (.bool more) := q1.2.1 17 _ rfl
  simp only []
  go_wp2_with fail
  refine (c2.out _ q1.2.2).mono ?_
  rintro e w2 ⟨rfl, hu⟩
  have q2 := q1.next hu
  clear hu q1
  clear x14 y14 x15 y15 x16 y16 x17 y17
  have x18 : w2.cell? ⟨w.heap.size, 18, none⟩ = some (.slice a4 lines.length ac4) := q2.1 18 _ rfl
  have y18 : w2.cell? ⟨w.heap.size + 1, 18, none⟩ = some (.slice b4 lines.length bc4) := q2.2.1 18 _ rfl
  have x19 : w2.cell? ⟨w.heap.size, 19, none⟩ = some (.string ⟨lobject.toArray⟩) := q2.1 19 _ rfl
  have y19 : w2.cell? ⟨w.heap.size + 1, 19, none⟩ = some (.string ⟨lobject.toArray⟩) := q2.2.1 19 _ rfl
  have x20 : w2.cell? ⟨w.heap.size, 20, none⟩ = some (.int .i64 lid) := q2.1 20 _ rfl
  have y20 : w2.cell? ⟨w.heap.size + 1, 20, none⟩ = some (.int .i64 lid) := q2.2.1 20 _ rfl
  have x21 : w2.cell? ⟨w.heap.size, 21, none⟩ = some (.bool lmore) := q2.1 21 _ rfl
  have y21 : w2.cell? ⟨w.heap.size + 1, 21, none⟩ = some (.bool lmore) := q2.2.1 21 _ rfl
  simp only []
  go_wp2_with fail
  refine (c3.out _ q2.2.2).mono ?_
  rintro e w3 ⟨rfl, hu⟩
  have q3 := q2.next hu
  clear hu q2
  clear x18 y18 x19 y19 x20 y20 x21 y21
  have x22 : w3.cell? ⟨w.heap.size, 22, none⟩ = some (.slice a5 ups.length ac5) := q3.1 22 _ rfl
  have y22 : w3.cell? ⟨w.heap.size + 1, 22, none⟩ = some (.slice b5 ups.length bc5) := q3.2.1 22 _ rfl
  simp only []
  go_wp2_with fail
  refine (c4.out _ q3.2.2).mono ?_
  rintro e w4 ⟨rfl, hu⟩
  have q4 := q3.next hu
  clear hu q3
  clear x22 y22
  have x23 : w4.cell? ⟨w.heap.size, 23, none⟩ = some (.slice a6 parts.length ac6) := q4.1 23 _ rfl
  have y23 : w4.cell? ⟨w.heap.size + 1, 23, none⟩ = some (.slice b6 parts.length bc6) := q4.2.1 23 _ rfl
  simp only []
  go_wp2_with fail
  refine (c5.out _ q4.2.2).mono ?_
  rintro e w5 ⟨rfl, hu⟩
  have q5 := q4.next hu
  clear hu q4
  clear x23 y23
  simp only []
  go_wp2_with fail
  go_ret
  exact ⟨rfl, q5.2.2⟩
end Go.Proofs.YtogekobpjjmnjaaGreat
