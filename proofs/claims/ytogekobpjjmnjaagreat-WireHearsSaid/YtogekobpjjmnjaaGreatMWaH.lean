/- The reference: RightAnswer. -/
import Derived.Test.YtogekobpjjmnjaaGreatMWaG
import Derived.Test.YtogekobpjjmnjaaGreatMWaD
import Derived.Test.YtogekobpjjmnjaaGreatMBlA
namespace Go.Proofs.YtogekobpjjmnjaaGreat
open Go.RowKit Go.Amb
set_option linter.unusedVariables false
set_option linter.unusedSimpArgs false
set_option maxRecDepth 100000
attribute [local go_sem ↓] Go.wp_at_zero Go.wp_at_succ
set_option maxHeartbeats 16000000 in
theorem rRightA (r0 : Rs) (S : Sl) (w : World) (hR : RsAt w r0 S) (hs : smallA r0) : Calls Tryz.prog 30 #[rsV r0 S] w (Ret (.bool (decide (rightA r0))) w) := by
  obtain ⟨s1, s2, s3, s4, s5, s6⟩ := hs
  have a1 := Lib.hid (fun w => rTagRight r0.re r0.im w)
  have a2 := Lib.hid (fun w => rHead r0.head w)
  have a3 := Lib.hid (fun v w h => rTexts v [r0.text, r0.version, r0.body, r0.next, r0.lobject] w h s1)
  have a4 := Lib.hid (fun w' (hu : Upd Non w w') => rTexts S.n r0.names w' (hR.non hu).n s2)
  have a5 := Lib.hid (fun w' (hu : Upd Non w w') => rTexts S.ln r0.lnames w' (hR.non hu).ln s3)
  have a6 := Lib.hid (fun w' (hu : Upd Non w w') => rTexts S.lp r0.lpre w' (hR.non hu).lp s4)
  obtain ⟨r, hrr⟩ : ∃ r, decide (rightA r0) = r := ⟨_, rfl⟩
  rw [hrr]
  have hyes : Hid (rightA r0 → r = true) := Lib.hid (fun h => by rw [← hrr]; exact decide_eq_true h)
  have hno : Hid (¬ rightA r0 → r = false) := Lib.hid (fun h => by rw [← hrr]; exact decide_eq_false h)
  clear hrr s1 s2 s3 s4
  unfold rightA at hyes hno
  obtain ⟨n1, n2, n3, n4, n5, n6⟩ := S
  obtain ⟨hR1, hR2, hR3, hR4, hR5, hR6⟩ := hR
  dsimp only at *
  obtain ⟨p1, q1, rfl, -⟩ := has1 hR1
  obtain ⟨p2, q2, rfl, -⟩ := has1 hR2
  obtain ⟨p3, q3, rfl, -⟩ := has1 hR3
  obtain ⟨p4, q4, rfl, t4, m4, x4⟩ := has_rows (f := lnC) (m := 8) (fun _ => rfl) hR4
  obtain ⟨p5, q5, rfl, t5, m5, x5⟩ := has_rows (f := upC) (m := 2) (fun _ => rfl) hR5
  obtain ⟨p6, q6, rfl, t6, m6, x6⟩ := has_rows (f := ptC) (m := 6) (fun _ => rfl) hR6
  unfold maxLen at m4 m5 m6 s5 s6
  replace x4 := Lib.hid x4
  replace x5 := Lib.hid x5
  replace x6 := Lib.hid x6
  replace s5 := Lib.hid s5
  replace s6 := Lib.hid s6
  clear hR1 hR2 hR3 hR4 hR5 hR6
  obtain ⟨err, id, time, text, re, im, version, ⟨size, hre, him, gone, null⟩, body, names, lnames, lpre, next, more, lines, lobject, lid, lmore, ups, parts⟩ := r0
  have ho := Lib.hid (fun w => five_txt w text version body next lobject)
  unfold rsV
  have hst : BxOf (rsC ⟨err, id, time, text, re, im, version, ⟨size, hre, him, gone, null⟩, body, names, lnames, lpre, next, more, lines, lobject, lid, lmore, ups, parts⟩ ⟨.slice p1 names.length q1, .slice p2 lnames.length q2, .slice p3 lpre.length q3, .slice p4 lines.length q4, .slice p5 ups.length q5, .slice p6 parts.length q6⟩) w (w.alloc (.cells (rsC ⟨err, id, time, text, re, im, version, ⟨size, hre, him, gone, null⟩, body, names, lnames, lpre, next, more, lines, lobject, lid, lmore, ups, parts⟩ ⟨.slice p1 names.length q1, .slice p2 lnames.length q2, .slice p3 lpre.length q3, .slice p4 lines.length q4, .slice p5 ups.length q5, .slice p6 parts.length q6⟩) 39)) := BxOf.start (Upd.refl _ _)
  unfold rsC at *
  dsimp only at *
  by_cases h1 : 0 ≤ err
  case neg =>
    obtain rfl : r = false := hno.out (fun e => h1 e.1.1)
    clear hno hyes a1 a2 a3 a4 a5 a6 x4 x5 x6
    go_enter Tryz.func30, Tryz.ntmps30
    dsimp only [List.append]
    go_wp2_with fail
    go_ret
    exact ⟨rfl, hst.upd⟩
  by_cases h2 : err ≤ 20
  case neg =>
    obtain rfl : r = false := hno.out (fun e => h2 e.1.2)
    clear hno hyes a1 a2 a3 a4 a5 a6 x4 x5 x6
    go_enter Tryz.func30, Tryz.ntmps30
    dsimp only [List.append]
    go_wp2_with fail
    go_ret
    exact ⟨rfl, hst.upd⟩
  unfold tagV at a1
  unfold hdV at a2
  dsimp only at *
  go_enter Tryz.func30, Tryz.ntmps30
  dsimp only [List.append]
  go_wp2_with fail
  refine (a1.out _).mono ?_
  rintro en w1 ⟨rfl, hu⟩
  have hB1 := hst.next hu
  clear hu hst a1
  by_cases hT : tagOk re im
  case neg =>
    rw [decide_eq_false hT]
    obtain rfl : r = false := hno.out (fun e => hT e.2.1)
    go_wp2_with fail
    go_ret
    exact ⟨rfl, hB1.upd⟩
  rw [decide_eq_true hT]
  replace hT := Lib.hid hT
  have y7 : w1.cell? ⟨w.heap.size, 7, none⟩ = some (.int .i64 size) := hB1.1 7 _ rfl
  have y8 : w1.cell? ⟨w.heap.size, 8, none⟩ = some (.int .i64 hre) := hB1.1 8 _ rfl
  have y9 : w1.cell? ⟨w.heap.size, 9, none⟩ = some (.int .i64 him) := hB1.1 9 _ rfl
  have y10 : w1.cell? ⟨w.heap.size, 10, none⟩ = some (.bool gone) := hB1.1 10 _ rfl
  have y11 : w1.cell? ⟨w.heap.size, 11, none⟩ = some (.bool null) := hB1.1 11 _ rfl
  go_wp2_with fail
  refine (a2.out _).mono ?_
  rintro en w2 ⟨rfl, hu⟩
  have hB2 := hB1.next hu
  clear hu hB1 a2 y7 y8 y9 y10 y11
  by_cases k3 : hdOk ⟨size, hre, him, gone, null⟩
  case neg =>
    rw [decide_eq_false k3]
    obtain rfl : r = false := hno.out (fun e => k3 e.2.2.1)
    go_wp2_with fail
    go_ret
    exact ⟨rfl, hB2.upd⟩
  rw [decide_eq_true k3]
  replace k3 := Lib.hid k3
  have y3 : w2.cell? ⟨w.heap.size, 3, none⟩ = some (.string ⟨text.toArray⟩) := hB2.1 3 _ rfl
  have y6 : w2.cell? ⟨w.heap.size, 6, none⟩ = some (.string ⟨version.toArray⟩) := hB2.1 6 _ rfl
  have y12 : w2.cell? ⟨w.heap.size, 12, none⟩ = some (.string ⟨body.toArray⟩) := hB2.1 12 _ rfl
  have y16 : w2.cell? ⟨w.heap.size, 16, none⟩ = some (.string ⟨next.toArray⟩) := hB2.1 16 _ rfl
  have y19 : w2.cell? ⟨w.heap.size, 19, none⟩ = some (.string ⟨lobject.toArray⟩) := hB2.1 19 _ rfl
  go_wp2_with fail
  refine (a3.out _ _ (ho.out w2)).mono ?_
  rintro en w3 ⟨rfl, hu⟩
  have hB3 := hB2.next ((Upd.alloc Non _ _).trans hu fun _ _ h => h)
  clear hu hB2 a3 y3 y6 y12 y16 y19
  by_cases k4 : txOk [text, version, body, next, lobject]
  case neg =>
    rw [decide_eq_false k4]
    obtain rfl : r = false := hno.out (fun e => k4 e.2.2.2.1)
    go_wp2_with fail
    go_ret
    exact ⟨rfl, hB3.upd⟩
  rw [decide_eq_true k4]
  replace k4 := Lib.hid k4
  have y13 : w3.cell? ⟨w.heap.size, 13, none⟩ = some (.slice p1 names.length q1) := hB3.1 13 _ rfl
  go_wp2_with fail
  refine (a4.out _ hB3.2).mono ?_
  rintro en w4 ⟨rfl, hu⟩
  have hB4 := hB3.next hu
  clear hu hB3 a4 y13
  by_cases k5 : txOk names
  case neg =>
    rw [decide_eq_false k5]
    obtain rfl : r = false := hno.out (fun e => k5 e.2.2.2.2.1)
    go_wp2_with fail
    go_ret
    exact ⟨rfl, hB4.upd⟩
  rw [decide_eq_true k5]
  replace k5 := Lib.hid k5
  have y14 : w4.cell? ⟨w.heap.size, 14, none⟩ = some (.slice p2 lnames.length q2) := hB4.1 14 _ rfl
  go_wp2_with fail
  refine (a5.out _ hB4.2).mono ?_
  rintro en w5 ⟨rfl, hu⟩
  have hB5 := hB4.next hu
  clear hu hB4 a5 y14
  by_cases k6 : txOk lnames
  case neg =>
    rw [decide_eq_false k6]
    obtain rfl : r = false := hno.out (fun e => k6 e.2.2.2.2.2.1)
    go_wp2_with fail
    go_ret
    exact ⟨rfl, hB5.upd⟩
  rw [decide_eq_true k6]
  replace k6 := Lib.hid k6
  have y15 : w5.cell? ⟨w.heap.size, 15, none⟩ = some (.slice p3 lpre.length q3) := hB5.1 15 _ rfl
  go_wp2_with fail
  refine (a6.out _ hB5.2).mono ?_
  rintro en w6 ⟨rfl, hu⟩
  have hB6 := hB5.next hu
  clear hu hB5 a6 y15
  by_cases k7 : txOk lpre
  case neg =>
    rw [decide_eq_false k7]
    obtain rfl : r = false := hno.out (fun e => k7 e.2.2.2.2.2.2.1)
    go_wp2_with fail
    go_ret
    exact ⟨rfl, hB6.upd⟩
  rw [decide_eq_true k7]
  replace k7 := Lib.hid k7
  have y18 : w6.cell? ⟨w.heap.size, 18, none⟩ = some (.slice p4 lines.length q4) := hB6.1 18 _ rfl
  by_cases h3 : lines.length ≤ 65535
  case neg =>
    have h3I : ¬ (lines.length : Int) ≤ 65535 := by omega
    obtain rfl : r = false := hno.out (fun e => h3 e.2.2.2.2.2.2.2.1.1)
    go_wp2_with fail
    go_ret
    exact ⟨rfl, hB6.upd⟩
  have h3I : (lines.length : Int) ≤ 65535 := by omega
  have y22 : w6.cell? ⟨w.heap.size, 22, none⟩ = some (.slice p5 ups.length q5) := hB6.1 22 _ rfl
  by_cases h4 : ups.length ≤ 65535
  case neg =>
    have h4I : ¬ (ups.length : Int) ≤ 65535 := by omega
    obtain rfl : r = false := hno.out (fun e => h4 e.2.2.2.2.2.2.2.2.1.1)
    go_wp2_with fail
    go_ret
    exact ⟨rfl, hB6.upd⟩
  have h4I : (ups.length : Int) ≤ 65535 := by omega
  have y23 : w6.cell? ⟨w.heap.size, 23, none⟩ = some (.slice p6 parts.length q6) := hB6.1 23 _ rfl
  by_cases h5 : parts.length ≤ 65535
  case neg =>
    have h5I : ¬ (parts.length : Int) ≤ 65535 := by omega
    obtain rfl : r = false := hno.out (fun e => h5 e.2.2.2.2.2.2.2.2.2.1)
    go_wp2_with fail
    go_ret
    exact ⟨rfl, hB6.upd⟩
  have h5I : (parts.length : Int) ≤ 65535 := by omega
  have hyes2 : Hid ((∀ x ∈ lines, lnOk x) → (∀ x ∈ ups, upOk x) → (∀ x ∈ parts, ptOk x) → r = true) := Lib.hid (fun e1 e2 e3 => hyes.out ⟨⟨h1, h2⟩, hT.out, k3.out, k4.out, k5.out, k6.out, k7.out, ⟨h3, e1⟩, ⟨h4, e2⟩, ⟨h5, e3⟩⟩)
  have hn1 := Lib.hid (fun (e : ∃ x ∈ lines, ¬ lnOk x) => hno.out (fun h => by obtain ⟨x, hx, hx2⟩ := e; exact hx2 (h.2.2.2.2.2.2.2.1.2 x hx)))
  have hn2 := Lib.hid (fun (e : ∃ x ∈ ups, ¬ upOk x) => hno.out (fun h => by obtain ⟨x, hx, hx2⟩ := e; exact hx2 (h.2.2.2.2.2.2.2.2.1.2 x hx)))
  have hn3 := Lib.hid (fun (e : ∃ x ∈ parts, ¬ ptOk x) => hno.out (fun h => by obtain ⟨x, hx, hx2⟩ := e; exact hx2 (h.2.2.2.2.2.2.2.2.2.2 x hx)))
  have hs1 := Lib.hid (fun k h h0 h1 => all_snoc (p := lnOk) (l := lines) k h h0 h1)
  have hs2 := Lib.hid (fun k h h0 h1 => all_snoc (p := upOk) (l := ups) k h h0 h1)
  have hs3 := Lib.hid (fun k h h0 h1 => all_snoc (p := ptOk) (l := parts) k h h0 h1)
  clear hyes hno k3 k4 k5 k6 k7 hT ho
  go_wp2_with fail
  go_loopw [3] (fun iv wr => ∃ k : Nat, iv = .int .i64 (k : Int) ∧ k ≤ lines.length ∧ Hid (∀ x ∈ lines.take k, lnOk x) ∧ BxOf #[.int .i64 err, .int .i64 id, .int .i64 time, .string ⟨text.toArray⟩, .int .i64 re, .int .i64 im, .string ⟨version.toArray⟩, .int .i64 size, .int .i64 hre, .int .i64 him, .bool gone, .bool null, .string ⟨body.toArray⟩, .slice p1 names.length q1, .slice p2 lnames.length q2, .slice p3 lpre.length q3, .string ⟨next.toArray⟩, .bool more, .slice p4 lines.length q4, .string ⟨lobject.toArray⟩, .int .i64 lid, .bool lmore, .slice p5 ups.length q5, .slice p6 parts.length q6] w wr) (fun iv _ => lines.length - (intOf iv).toNat)
  case atStart => exact ⟨0, rfl, Nat.zero_le _, Lib.hid (fun s hs => by rw [List.take_zero] at hs; cases hs), hB6⟩
  case round =>
    clear hB6 y18 y22 y23
    obtain ⟨k, rfl, hk, hq, hB⟩ := hrel
    have y18 : wr.cell? ⟨w.heap.size, 18, none⟩ = some (.slice p4 lines.length q4) := hB.1 18 _ rfl
    by_cases hlt : k < lines.length
    · have hltI : (k : Int) < (lines.length : Int) := by omega
      have hk0 : (0 : Int) ≤ (k : Int) := by omega
      obtain ⟨gg, off, rfl, x0⟩ := x4.out k hlt
      have hx2 := fun j u hu => hB.2.cell (x0 j u hu) fun h => h
      have hsm := s5.out _ (List.getElem_mem hlt)
      have hok := Lib.hid (hs1.out k hlt hq.out)
      have hbad := Lib.hid (fun h => hn1.out ⟨_, List.getElem_mem hlt, h⟩)
      clear x0
      generalize lines[k] = x at *
      have a2 := Lib.hid (fun w => rHead x.head w)
      have hli : Hid (lnOk x ↔ x.object.length ≤ 1048576 ∧ hdOk x.head) := Lib.hid Iff.rfl
      unfold hdV at a2
      generalize lnOk x = XO at *
      obtain ⟨ob, xid, lat, ⟨xs, xr, xi, xg, xl⟩⟩ := x
      dsimp only at *
      have z0 : wr.cell? ⟨gg, off + k * 8, none⟩ = some (.string ⟨ob.toArray⟩) := hx2 0 _ rfl
      have z1 : wr.cell? ⟨gg, off + k * 8 + 1, none⟩ = some (.int .i64 xid) := hx2 1 _ rfl
      have z2 : wr.cell? ⟨gg, off + k * 8 + 2, none⟩ = some (.bool lat) := hx2 2 _ rfl
      have z3 : wr.cell? ⟨gg, off + k * 8 + 3, none⟩ = some (.int .i64 xs) := hx2 3 _ rfl
      have z4 : wr.cell? ⟨gg, off + k * 8 + 4, none⟩ = some (.int .i64 xr) := hx2 4 _ rfl
      have z5 : wr.cell? ⟨gg, off + k * 8 + 5, none⟩ = some (.int .i64 xi) := hx2 5 _ rfl
      have z6 : wr.cell? ⟨gg, off + k * 8 + 6, none⟩ = some (.bool xg) := hx2 6 _ rfl
      have z7 : wr.cell? ⟨gg, off + k * 8 + 7, none⟩ = some (.bool xl) := hx2 7 _ rfl
      have hbx := heap_alloc_new wr (.cells #[.string ⟨#[]⟩, .int .i64 0, .bool false, .int .i64 0, .int .i64 0, .int .i64 0, .bool false, .bool false] 96)
      have hsx : Hid ((Tryz.prog.info? 96).map (·.size) = some (#[.string ⟨ob.toArray⟩, .int .i64 xid, .bool lat, .int .i64 xs, .int .i64 xr, .int .i64 xi, .bool xg, .bool xl] : Array Value).size) := Lib.hid (by kernel_rfl)
      clear hx2
      go_wp2_with ((with_reducible (show wpList _ _ _ (⟨_, Op.store _ _ _, _, _, _, _⟩ :: _) _ _)); refine storeB_list rfl 96 _ _ rfl wr.heap.size #[.string ⟨ob.toArray⟩, .int .i64 xid, .bool lat, .int .i64 xs, .int .i64 xr, .int .i64 xi, .bool xg, .bool xl] _ _ rfl rfl hbx rfl hsx.out (by simp [Value.oneCell']) ?_)
      intro w3 hb3 hu3
      have hB3 := hB.next ((Upd.alloc Non wr _).trans hu3 fun j hj h => by omega)
      clear z0 z1 z2 z3 z4 z5 z6 z7 hbx hsx hu3 y18 hB
      have m0 : w3.cell? ⟨wr.heap.size, 0, none⟩ = some (.string ⟨ob.toArray⟩) := (cells_of hb3).1 0
      by_cases q1 : ob.length ≤ 1048576
      case neg =>
        have q1I : ¬ (ob.length : Int) ≤ 1048576 := by omega
        obtain rfl : r = false := hbad.out (fun h => q1 (hli.out.1 h).1)
        go_wp2_with fail
        go_ret
        exact ⟨rfl, hB3.upd⟩
      have q1I : (ob.length : Int) ≤ 1048576 := by omega
      have m3 : w3.cell? ⟨wr.heap.size, 3, none⟩ = some (.int .i64 xs) := (cells_of hb3).1 3
      have m4' : w3.cell? ⟨wr.heap.size, 4, none⟩ = some (.int .i64 xr) := (cells_of hb3).1 4
      have m5' : w3.cell? ⟨wr.heap.size, 5, none⟩ = some (.int .i64 xi) := (cells_of hb3).1 5
      have m6' : w3.cell? ⟨wr.heap.size, 6, none⟩ = some (.bool xg) := (cells_of hb3).1 6
      have m7 : w3.cell? ⟨wr.heap.size, 7, none⟩ = some (.bool xl) := (cells_of hb3).1 7
      go_wp2_with fail
      refine (a2.out _).mono ?_
      rintro en w5 ⟨rfl, hu⟩
      have hB5 := hB3.next hu
      clear hu hB3 hb3 m0 m3 m4' m5' m6' m7 a2
      by_cases q2 : hdOk ⟨xs, xr, xi, xg, xl⟩
      · rw [decide_eq_true q2]
        replace hok := Lib.hid (hok.out (hli.out.2 ⟨q1, q2⟩))
        replace q2 := Lib.hid q2
        clear hbad
        go_wp2_with fail
        go_roundw
        case rel => exact ⟨k + 1, by go_num, by omega, hok, hB5⟩
        case measure => simp [intOf]; omega
      · rw [decide_eq_false q2]
        obtain rfl : r = false := hbad.out (fun h => q2 (hli.out.1 h).2)
        replace q2 := Lib.hid q2
        go_wp2_with fail
        go_ret
        exact ⟨rfl, hB5.upd⟩
    · have hltI : ¬ (k : Int) < (lines.length : Int) := by omega
      obtain rfl : k = lines.length := by omega
      rw [List.take_length] at hq
      replace hyes2 := Lib.hid (hyes2.out hq.out)
      clear hq hn1 hs1 hk hlt x4 s5
      go_wp2_with fail
      go_loopw [5] (fun iv wr => ∃ k : Nat, iv = .int .i64 (k : Int) ∧ k ≤ ups.length ∧ Hid (∀ x ∈ ups.take k, upOk x) ∧ BxOf #[.int .i64 err, .int .i64 id, .int .i64 time, .string ⟨text.toArray⟩, .int .i64 re, .int .i64 im, .string ⟨version.toArray⟩, .int .i64 size, .int .i64 hre, .int .i64 him, .bool gone, .bool null, .string ⟨body.toArray⟩, .slice p1 names.length q1, .slice p2 lnames.length q2, .slice p3 lpre.length q3, .string ⟨next.toArray⟩, .bool more, .slice p4 lines.length q4, .string ⟨lobject.toArray⟩, .int .i64 lid, .bool lmore, .slice p5 ups.length q5, .slice p6 parts.length q6] w wr) (fun iv _ => ups.length - (intOf iv).toNat)
      case atStart => exact ⟨0, rfl, Nat.zero_le _, Lib.hid (fun s hs => by rw [List.take_zero] at hs; cases hs), hB⟩
      case round =>
        clear hB y18
        obtain ⟨k, rfl, hk, hq, hB⟩ := hrel
        have y22 : wr.cell? ⟨w.heap.size, 22, none⟩ = some (.slice p5 ups.length q5) := hB.1 22 _ rfl
        by_cases hlt : k < ups.length
        · have hltI : (k : Int) < (ups.length : Int) := by omega
          have hk0 : (0 : Int) ≤ (k : Int) := by omega
          obtain ⟨gg, off, rfl, x0⟩ := x5.out k hlt
          have hx2 := fun j u hu => hB.2.cell (x0 j u hu) fun h => h
          have hsm := s6.out _ (List.getElem_mem hlt)
          have hok := Lib.hid (hs2.out k hlt hq.out)
          have hbad := Lib.hid (fun h => hn2.out ⟨_, List.getElem_mem hlt, h⟩)
          clear x0
          generalize ups[k] = x at *
          have hli : Hid (upOk x ↔ x.object.length ≤ 1048576) := Lib.hid Iff.rfl
          generalize upOk x = XO at *
          obtain ⟨ob, xid⟩ := x
          dsimp only at *
          have z0 : wr.cell? ⟨gg, off + k * 2, none⟩ = some (.string ⟨ob.toArray⟩) := hx2 0 _ rfl
          clear hx2
          by_cases q1 : ob.length ≤ 1048576
          case neg =>
            have q1I : ¬ (ob.length : Int) ≤ 1048576 := by omega
            obtain rfl : r = false := hbad.out (fun h => q1 (hli.out.1 h))
            go_wp2_with fail
            go_ret
            exact ⟨rfl, hB.upd⟩
          have q1I : (ob.length : Int) ≤ 1048576 := by omega
          replace hok := Lib.hid (hok.out (hli.out.2 q1))
          clear hbad
          go_wp2_with fail
          go_roundw
          case rel => exact ⟨k + 1, by go_num, by omega, hok, hB⟩
          case measure => simp [intOf]; omega
        · have hltI : ¬ (k : Int) < (ups.length : Int) := by omega
          obtain rfl : k = ups.length := by omega
          rw [List.take_length] at hq
          replace hyes2 := Lib.hid (hyes2.out hq.out)
          clear hq hn2 hs2 hk hlt x5 s6
          go_wp2_with fail
          go_loopw [6] (fun iv wr => ∃ k : Nat, iv = .int .i64 (k : Int) ∧ k ≤ parts.length ∧ Hid (∀ x ∈ parts.take k, ptOk x) ∧ BxOf #[.int .i64 err, .int .i64 id, .int .i64 time, .string ⟨text.toArray⟩, .int .i64 re, .int .i64 im, .string ⟨version.toArray⟩, .int .i64 size, .int .i64 hre, .int .i64 him, .bool gone, .bool null, .string ⟨body.toArray⟩, .slice p1 names.length q1, .slice p2 lnames.length q2, .slice p3 lpre.length q3, .string ⟨next.toArray⟩, .bool more, .slice p4 lines.length q4, .string ⟨lobject.toArray⟩, .int .i64 lid, .bool lmore, .slice p5 ups.length q5, .slice p6 parts.length q6] w wr) (fun iv _ => parts.length - (intOf iv).toNat)
          case atStart => exact ⟨0, rfl, Nat.zero_le _, Lib.hid (fun s hs => by rw [List.take_zero] at hs; cases hs), hB⟩
          case round =>
            clear hB y22
            obtain ⟨k, rfl, hk, hq, hB⟩ := hrel
            have y23 : wr.cell? ⟨w.heap.size, 23, none⟩ = some (.slice p6 parts.length q6) := hB.1 23 _ rfl
            by_cases hlt : k < parts.length
            · have hltI : (k : Int) < (parts.length : Int) := by omega
              have hk0 : (0 : Int) ≤ (k : Int) := by omega
              obtain ⟨gg, off, rfl, x0⟩ := x6.out k hlt
              have hx2 := fun j u hu => hB.2.cell (x0 j u hu) fun h => h
              have hok := Lib.hid (hs3.out k hlt hq.out)
              have hbad := Lib.hid (fun h => hn3.out ⟨_, List.getElem_mem hlt, h⟩)
              clear x0
              generalize parts[k] = x at *
              have a2 := Lib.hid (fun w => rHead x.head w)
              have hli : Hid (ptOk x ↔ (0 ≤ x.n ∧ x.n ≤ 65535) ∧ hdOk x.head) := Lib.hid Iff.rfl
              unfold hdV at a2
              generalize ptOk x = XO at *
              obtain ⟨xn, ⟨xs, xr, xi, xg, xl⟩⟩ := x
              dsimp only at *
              have z0 : wr.cell? ⟨gg, off + k * 6, none⟩ = some (.int .i64 xn) := hx2 0 _ rfl
              have z1 : wr.cell? ⟨gg, off + k * 6 + 1, none⟩ = some (.int .i64 xs) := hx2 1 _ rfl
              have z2 : wr.cell? ⟨gg, off + k * 6 + 2, none⟩ = some (.int .i64 xr) := hx2 2 _ rfl
              have z3 : wr.cell? ⟨gg, off + k * 6 + 3, none⟩ = some (.int .i64 xi) := hx2 3 _ rfl
              have z4 : wr.cell? ⟨gg, off + k * 6 + 4, none⟩ = some (.bool xg) := hx2 4 _ rfl
              have z5 : wr.cell? ⟨gg, off + k * 6 + 5, none⟩ = some (.bool xl) := hx2 5 _ rfl
              have hbx := heap_alloc_new wr (.cells #[.int .i64 0, .int .i64 0, .int .i64 0, .int .i64 0, .bool false, .bool false] 61)
              have hsx : Hid ((Tryz.prog.info? 61).map (·.size) = some (#[.int .i64 xn, .int .i64 xs, .int .i64 xr, .int .i64 xi, .bool xg, .bool xl] : Array Value).size) := Lib.hid (by kernel_rfl)
              clear hx2
              go_wp2_with ((with_reducible (show wpList _ _ _ (⟨_, Op.store _ _ _, _, _, _, _⟩ :: _) _ _)); refine storeB_list rfl 61 _ _ rfl wr.heap.size #[.int .i64 xn, .int .i64 xs, .int .i64 xr, .int .i64 xi, .bool xg, .bool xl] _ _ rfl rfl hbx rfl hsx.out (by simp [Value.oneCell']) ?_)
              intro w3 hb3 hu3
              have hB3 := hB.next ((Upd.alloc Non wr _).trans hu3 fun j hj h => by omega)
              clear z0 z1 z2 z3 z4 z5 hbx hsx hu3 y23 hB
              have m0 : w3.cell? ⟨wr.heap.size, 0, none⟩ = some (.int .i64 xn) := (cells_of hb3).1 0
              by_cases q0 : 0 ≤ xn
              case neg =>
                obtain rfl : r = false := hbad.out (fun h => q0 (hli.out.1 h).1.1)
                go_wp2_with fail
                go_ret
                exact ⟨rfl, hB3.upd⟩
              by_cases q1 : xn ≤ 65535
              case neg =>
                obtain rfl : r = false := hbad.out (fun h => q1 (hli.out.1 h).1.2)
                go_wp2_with fail
                go_ret
                exact ⟨rfl, hB3.upd⟩
              have m3 : w3.cell? ⟨wr.heap.size, 1, none⟩ = some (.int .i64 xs) := (cells_of hb3).1 1
              have m4' : w3.cell? ⟨wr.heap.size, 2, none⟩ = some (.int .i64 xr) := (cells_of hb3).1 2
              have m5' : w3.cell? ⟨wr.heap.size, 3, none⟩ = some (.int .i64 xi) := (cells_of hb3).1 3
              have m6' : w3.cell? ⟨wr.heap.size, 4, none⟩ = some (.bool xg) := (cells_of hb3).1 4
              have m7 : w3.cell? ⟨wr.heap.size, 5, none⟩ = some (.bool xl) := (cells_of hb3).1 5
              go_wp2_with fail
              refine (a2.out _).mono ?_
              rintro en w5 ⟨rfl, hu⟩
              have hB5 := hB3.next hu
              clear hu hB3 hb3 m0 m3 m4' m5' m6' m7 a2
              by_cases q2 : hdOk ⟨xs, xr, xi, xg, xl⟩
              · rw [decide_eq_true q2]
                replace hok := Lib.hid (hok.out (hli.out.2 ⟨⟨q0, q1⟩, q2⟩))
                replace q2 := Lib.hid q2
                clear hbad
                go_wp2_with fail
                go_roundw
                case rel => exact ⟨k + 1, by go_num, by omega, hok, hB5⟩
                case measure => simp [intOf]; omega
              · rw [decide_eq_false q2]
                obtain rfl : r = false := hbad.out (fun h => q2 (hli.out.1 h).2)
                replace q2 := Lib.hid q2
                go_wp2_with fail
                go_ret
                exact ⟨rfl, hB5.upd⟩
            · have hltI : ¬ (k : Int) < (parts.length : Int) := by omega
              obtain rfl : k = parts.length := by omega
              rw [List.take_length] at hq
              obtain rfl := hyes2.out hq.out
              go_wp2_with fail
              go_ret
              exact ⟨rfl, hB.upd⟩
end Go.Proofs.YtogekobpjjmnjaaGreat
