/- The walk over WireHeard (printed by gen/mkwhr.py). -/
import Derived.Test.YtogekobpjjmnjaaMWbC
import Derived.Test.YtogekobpjjmnjaaMWbD
import Derived.Test.YtogekobpjjmnjaaMWbE
import Derived.Test.YtogekobpjjmnjaaMWbA
import Derived.Test.YtogekobpjjmnjaaMWaYp
namespace Go.Proofs.Ytogekobpjjmnjaa
open Go.RowKit Go.Amb
set_option linter.unusedVariables false
set_option linter.unusedSimpArgs false
set_option maxRecDepth 100000
attribute [local go_sem ↓] Go.wp_at_zero Go.wp_at_succ
theorem right_small {r : Rs} (h : rightA r) : smallA r := by
  obtain ⟨-, -, -, h1, h2, h3, h4, h5, h6, -⟩ := h
  refine ⟨fun s hs => ?_, fun s hs => ?_, fun s hs => ?_, fun s hs => ?_, fun x hx => ?_, fun x hx => ?_⟩ <;> unfold maxLen
  · have := h1.2 s hs; omega
  · have := h2.2 s hs; omega
  · have := h3.2 s hs; omega
  · have := h4.2 s hs; omega
  · have := (h5.2 x hx).1; omega
  · have := h6.2 x hx; unfold upOk at this; omega
set_option maxHeartbeats 4000000 in
theorem putA_most {r : Rs} (h : rightA r) : (putA r).length ≤ 140737488355328 := by
  obtain ⟨-, -, -, h1, h2, h3, h4, ⟨a1, b1⟩, ⟨a2, b2⟩, ⟨a3, b3⟩⟩ := h
  have m1 := putTxs_most h2
  have m2 := putTxs_most h3
  have m3 := putTxs_most h4
  have m4 := flat_most putLn 1048600 r.lines (fun x hx => putLn_most (b1 x hx))
  have m5 := flat_most putUp 1048600 r.ups (fun x hx => putUp_most (b2 x hx))
  have m6 := flat_most putPt 13 r.parts (fun x hx => Nat.le_of_eq (putPt_len x))
  have t1 := h1.2 r.text (by simp)
  have t2 := h1.2 r.version (by simp)
  have t3 := h1.2 r.body (by simp)
  have t4 := h1.2 r.next (by simp)
  have t5 := h1.2 r.lobject (by simp)
  unfold putA putLns
  simp only [List.length_append, fld_length, txtF_len, putHd_len, truF_len]
  generalize (putTxs r.names).length = n1 at *
  generalize (putTxs r.lnames).length = n2 at *
  generalize (putTxs r.lpre).length = n3 at *
  generalize (r.lines.flatMap putLn).length = n4 at *
  generalize (r.ups.flatMap putUp).length = n5 at *
  generalize (r.parts.flatMap putPt).length = n6 at *
  clear h1 h2 h3 h4 b1 b2 b3
  omega
set_option maxHeartbeats 32000000 in
theorem lWireHeard (r0 : Rs) (S : Sl) (s1 : List UInt8) (v1 : Value) (w : World) (hR : RsAt w r0 S) (hs : smallA r0) (hlt : SlLt S w.heap.size) (hid : ids r0) (hB : Bytes w v1 s1) (hl1 : s1.length ≤ 140737488355328) : Calls Try.prog 7 #[rsV r0 S, v1] w (Ret (.bool true) w) := by
  by_cases hg : rightA r0
  case pos =>
    cases hT : tellA wTx s1 with
    | none =>
      have cL := Lib.hid lives24
      have cF := Lib.hid (fun w' h => few24 r0 S w' h)
      have cA := Lib.hid (fun w' h hlt => wAnswer2 r0 S w' h hs hlt hid)
      have cH1 := Lib.hid (fun v w' h => wReadAnswer v s1 w' h hl1)
      unfold HeardA at cH1
      rw [hT] at cH1
      rw [show ckA r0 = 0 from if_pos hg, show bytesA r0 = putA r0 from if_pos hg] at cA
      have cH0 := Lib.hid (fun v w' h hl => wReadAnswer v (putA r0) w' h hl)
      unfold HeardA at cH0
      rw [show tellA wTx (putA r0) = some r0 from tell_put wTx_pc hg hid] at cH0
      have cS := Lib.hid (fun S' w' h1 h2 => sAnswer r0 S' S w' h1 h2)
      have hlb := putA_most hg
      generalize putA r0 = bs at *
      have cZ := Lib.hid (fun S' w' h => sAnswer zeroA S' S0 w' h (S0_at w' zeroA rfl rfl rfl rfl rfl rfl))
      clear hT hs hid hl1
      have hgg := Lib.hid hg
      clear hg
      have hR' := Lib.hid hR
      obtain ⟨np1, np2, np3, np4, np5, np6⟩ := S
      obtain ⟨hp1, hp2, hp3, hp4, hp5, hp6⟩ := hR
      dsimp only at *
      obtain ⟨p1, q1, rfl, -⟩ := has1 hp1
      obtain ⟨p2, q2, rfl, -⟩ := has1 hp2
      obtain ⟨p3, q3, rfl, -⟩ := has1 hp3
      obtain ⟨p4, q4, rfl, -⟩ := has_rows (f := lnC) (m := 8) (fun _ => rfl) hp4
      obtain ⟨p5, q5, rfl, -⟩ := has_rows (f := upC) (m := 2) (fun _ => rfl) hp5
      obtain ⟨p6, q6, rfl, -⟩ := has_rows (f := ptC) (m := 6) (fun _ => rfl) hp6
      clear hp1 hp2 hp3 hp4 hp5 hp6
      unfold rsV rsC at *
      obtain ⟨err, id, time, text, re, im, version, ⟨size, hre, him, gone, null⟩, body, names, lnames, lpre, next, more, lines, lobject, lid, lmore, ups, parts⟩ := r0
      dsimp only [Option.getD, codeA, Option.isSome] at *
      try dsimp only [zeroA, S0] at *
      have hst := heap_alloc_new w (.cells #[.int .i64 err, .int .i64 id, .int .i64 time, .string ⟨text.toArray⟩, .int .i64 re, .int .i64 im, .string ⟨version.toArray⟩, .int .i64 size, .int .i64 hre, .int .i64 him, .bool gone, .bool null, .string ⟨body.toArray⟩, .slice p1 names.length q1, .slice p2 lnames.length q2, .slice p3 lpre.length q3, .string ⟨next.toArray⟩, .bool more, .slice p4 lines.length q4, .string ⟨lobject.toArray⟩, .int .i64 lid, .bool lmore, .slice p5 ups.length q5, .slice p6 parts.length q6] 61)
      have hsu : Upd Non w (w.alloc (.cells #[.int .i64 err, .int .i64 id, .int .i64 time, .string ⟨text.toArray⟩, .int .i64 re, .int .i64 im, .string ⟨version.toArray⟩, .int .i64 size, .int .i64 hre, .int .i64 him, .bool gone, .bool null, .string ⟨body.toArray⟩, .slice p1 names.length q1, .slice p2 lnames.length q2, .slice p3 lpre.length q3, .string ⟨next.toArray⟩, .bool more, .slice p4 lines.length q4, .string ⟨lobject.toArray⟩, .int .i64 lid, .bool lmore, .slice p5 ups.length q5, .slice p6 parts.length q6] 61)) := Upd.alloc _ _ _
      have hsz : Hid ((Try.prog.info? 61).map (·.size) = some (#[.int .i64 err, .int .i64 id, .int .i64 time, .string ⟨text.toArray⟩, .int .i64 re, .int .i64 im, .string ⟨version.toArray⟩, .int .i64 size, .int .i64 hre, .int .i64 him, .bool gone, .bool null, .string ⟨body.toArray⟩, .slice p1 names.length q1, .slice p2 lnames.length q2, .slice p3 lpre.length q3, .string ⟨next.toArray⟩, .bool more, .slice p4 lines.length q4, .string ⟨lobject.toArray⟩, .int .i64 lid, .bool lmore, .slice p5 ups.length q5, .slice p6 parts.length q6] : Array Value).size) := Lib.hid (by kernel_rfl)
      have hR0 := Lib.hid (hR'.out.non hsu)
      have hB1 := Lib.hid (hB.non hsu)
      have gU := Upd.refl Non (w.alloc (.cells #[.int .i64 err, .int .i64 id, .int .i64 time, .string ⟨text.toArray⟩, .int .i64 re, .int .i64 im, .string ⟨version.toArray⟩, .int .i64 size, .int .i64 hre, .int .i64 him, .bool gone, .bool null, .string ⟨body.toArray⟩, .slice p1 names.length q1, .slice p2 lnames.length q2, .slice p3 lpre.length q3, .string ⟨next.toArray⟩, .bool more, .slice p4 lines.length q4, .string ⟨lobject.toArray⟩, .int .i64 lid, .bool lmore, .slice p5 ups.length q5, .slice p6 parts.length q6] 61))
      have hz := hsu.size
      obtain ⟨vb1, vb2, rfl⟩ := bytes_form hB
      clear hR' hB
      go_enter Try.func7, Try.ntmps7
      go_wp2_with ((with_reducible (show wpList _ _ _ (⟨_, Op.load _ _, _, _, _, _⟩ :: _) _ _)); refine loadB_list rfl 61 _ rfl w.heap.size #[.int .i64 err, .int .i64 id, .int .i64 time, .string ⟨text.toArray⟩, .int .i64 re, .int .i64 im, .string ⟨version.toArray⟩, .int .i64 size, .int .i64 hre, .int .i64 him, .bool gone, .bool null, .string ⟨body.toArray⟩, .slice p1 names.length q1, .slice p2 lnames.length q2, .slice p3 lpre.length q3, .string ⟨next.toArray⟩, .bool more, .slice p4 lines.length q4, .string ⟨lobject.toArray⟩, .int .i64 lid, .bool lmore, .slice p5 ups.length q5, .slice p6 parts.length q6] _ _ rfl hst Try.underlying61 rfl hsz.out ?_)
      refine (cF.out _ (hR0.out.non gU)).mono ?_
      rintro en w1 ⟨b, rfl, hu⟩
      replace gU := gU.trans hu fun _ _ h => h
      clear hu cF
      cases b
      case false =>
        clear hst hR0 hB1
        go_wp2_with fail
        refine (cL.out _).mono ?_
        rintro en w2 ⟨rfl, hu⟩
        replace gU := gU.trans hu fun _ _ h => h
        clear hu
        go_wp2_with fail
        go_ret
        exact ⟨rfl, hsu.trans gU fun _ _ h => h⟩
      go_wp2_with ((with_reducible (show wpList _ _ _ (⟨_, Op.load _ _, _, _, _, _⟩ :: _) _ _)); refine loadB_list rfl 61 _ rfl w.heap.size #[.int .i64 err, .int .i64 id, .int .i64 time, .string ⟨text.toArray⟩, .int .i64 re, .int .i64 im, .string ⟨version.toArray⟩, .int .i64 size, .int .i64 hre, .int .i64 him, .bool gone, .bool null, .string ⟨body.toArray⟩, .slice p1 names.length q1, .slice p2 lnames.length q2, .slice p3 lpre.length q3, .string ⟨next.toArray⟩, .bool more, .slice p4 lines.length q4, .string ⟨lobject.toArray⟩, .int .i64 lid, .bool lmore, .slice p5 ups.length q5, .slice p6 parts.length q6] _ _ rfl (gU.heap hst fun h => h) Try.underlying61 rfl hsz.out ?_)
      refine (cA.out _ (hR0.out.non gU) (fun k hk => by have := hlt k hk; have := gU.size; omega)).mono ?_
      rintro en w2 ⟨bv, rfl, hbv, hu, hbk⟩
      replace gU := gU.trans hu fun _ _ h => h
      clear hu cA hbk
      obtain ⟨va0, vc0, rfl⟩ := bytes_form hbv
      have hlv : bs.length ≤ 140737488355328 := hlb
      go_wp2_with fail
      refine (cH0.out _ _ hbv hlv).mono ?_
      rintro en w3 ⟨S1, rfl, hS1, hk1, hu⟩
      replace gU := gU.trans hu fun _ _ h => h
      clear hu cH0 hbv hlv
      have hS1' := Lib.hid hS1
      have hz3 := gU.size
      obtain ⟨ns1, ns2, ns3, ns4, ns5, ns6⟩ := S1
      obtain ⟨hs1, hs2, hs3, hs4, hs5, hs6⟩ := hS1
      dsimp only at *
      obtain ⟨s1, t1, rfl, -⟩ := has1 hs1
      obtain ⟨s2, t2, rfl, -⟩ := has1 hs2
      obtain ⟨s3, t3, rfl, -⟩ := has1 hs3
      obtain ⟨s4, t4, rfl, -⟩ := has_rows (f := lnC) (m := 8) (fun _ => rfl) hs4
      obtain ⟨s5, t5, rfl, -⟩ := has_rows (f := upC) (m := 2) (fun _ => rfl) hs5
      obtain ⟨s6, t6, rfl, -⟩ := has_rows (f := ptC) (m := 6) (fun _ => rfl) hs6
      clear hs1 hs2 hs3 hs4 hs5 hs6
      have hbx := heap_alloc_new w3 (.cells #[.int .i64 0, .int .i64 0, .int .i64 0, .string ⟨#[]⟩, .int .i64 0, .int .i64 0, .string ⟨#[]⟩, .int .i64 0, .int .i64 0, .int .i64 0, .bool false, .bool false, .string ⟨#[]⟩, .slice none 0 0, .slice none 0 0, .slice none 0 0, .string ⟨#[]⟩, .bool false, .slice none 0 0, .string ⟨#[]⟩, .int .i64 0, .bool false, .slice none 0 0, .slice none 0 0] 61)
      have hsz1 : Hid ((Try.prog.info? 61).map (·.size) = some (#[.int .i64 err, .int .i64 id, .int .i64 time, .string ⟨text.toArray⟩, .int .i64 re, .int .i64 im, .string ⟨version.toArray⟩, .int .i64 size, .int .i64 hre, .int .i64 him, .bool gone, .bool null, .string ⟨body.toArray⟩, .slice s1 names.length t1, .slice s2 lnames.length t2, .slice s3 lpre.length t3, .string ⟨next.toArray⟩, .bool more, .slice s4 lines.length t4, .string ⟨lobject.toArray⟩, .int .i64 lid, .bool lmore, .slice s5 ups.length t5, .slice s6 parts.length t6] : Array Value).size) := Lib.hid (by kernel_rfl)
      go_wp2_with ((with_reducible (show wpList _ _ _ (⟨_, Op.store _ _ _, _, _, _, _⟩ :: _) _ _)); refine storeB_list rfl 61 _ _ rfl w3.heap.size #[.int .i64 err, .int .i64 id, .int .i64 time, .string ⟨text.toArray⟩, .int .i64 re, .int .i64 im, .string ⟨version.toArray⟩, .int .i64 size, .int .i64 hre, .int .i64 him, .bool gone, .bool null, .string ⟨body.toArray⟩, .slice s1 names.length t1, .slice s2 lnames.length t2, .slice s3 lpre.length t3, .string ⟨next.toArray⟩, .bool more, .slice s4 lines.length t4, .string ⟨lobject.toArray⟩, .int .i64 lid, .bool lmore, .slice s5 ups.length t5, .slice s6 parts.length t6] _ _ rfl rfl hbx rfl hsz1.out (by simp [Value.oneCell']) ?_)
      intro w4 hb4 hu4
      replace gU := (gU.then_alloc _).trans hu4 fun j hj h => by omega
      have hS4 := Lib.hid ((hS1'.out.non (Upd.alloc Non w3 (.cells #[.int .i64 0, .int .i64 0, .int .i64 0, .string ⟨#[]⟩, .int .i64 0, .int .i64 0, .string ⟨#[]⟩, .int .i64 0, .int .i64 0, .int .i64 0, .bool false, .bool false, .string ⟨#[]⟩, .slice none 0 0, .slice none 0 0, .slice none 0 0, .string ⟨#[]⟩, .bool false, .slice none 0 0, .string ⟨#[]⟩, .int .i64 0, .bool false, .slice none 0 0, .slice none 0 0] 61))).upd hu4 fun k hk e => by have := (hk1 k hk).2; omega)
      clear hu4 hbx hS1' hk1
      go_wp2_with (first | ((with_reducible (show wpList _ _ _ (⟨_, Op.load _ _, _, _, _, _⟩ :: _) _ _)); refine loadB_list rfl 61 _ rfl w3.heap.size #[.int .i64 err, .int .i64 id, .int .i64 time, .string ⟨text.toArray⟩, .int .i64 re, .int .i64 im, .string ⟨version.toArray⟩, .int .i64 size, .int .i64 hre, .int .i64 him, .bool gone, .bool null, .string ⟨body.toArray⟩, .slice s1 names.length t1, .slice s2 lnames.length t2, .slice s3 lpre.length t3, .string ⟨next.toArray⟩, .bool more, .slice s4 lines.length t4, .string ⟨lobject.toArray⟩, .int .i64 lid, .bool lmore, .slice s5 ups.length t5, .slice s6 parts.length t6] _ _ rfl hb4 Try.underlying61 rfl hsz1.out ?_) | ((with_reducible (show wpList _ _ _ (⟨_, Op.load _ _, _, _, _, _⟩ :: _) _ _)); refine loadB_list rfl 61 _ rfl w.heap.size #[.int .i64 err, .int .i64 id, .int .i64 time, .string ⟨text.toArray⟩, .int .i64 re, .int .i64 im, .string ⟨version.toArray⟩, .int .i64 size, .int .i64 hre, .int .i64 him, .bool gone, .bool null, .string ⟨body.toArray⟩, .slice p1 names.length q1, .slice p2 lnames.length q2, .slice p3 lpre.length q3, .string ⟨next.toArray⟩, .bool more, .slice p4 lines.length q4, .string ⟨lobject.toArray⟩, .int .i64 lid, .bool lmore, .slice p5 ups.length q5, .slice p6 parts.length q6] _ _ rfl (gU.heap hst fun h => h) Try.underlying61 rfl hsz.out ?_))
      refine (cS.out _ _ hS4.out (hR0.out.non gU)).mono ?_
      rintro en w5 ⟨rfl, hu⟩
      replace gU := gU.trans hu fun _ _ h => h
      clear hu cS hS4 hb4 hz3 hst hsz1
      go_wp2_with fail
      refine (cH1.out _ _ (hB1.out.non gU)).mono ?_
      rintro en w6 ⟨S2, rfl, hS2, hk2, hu⟩
      replace gU := gU.trans hu fun _ _ h => h
      clear hu cH1
      have hS2' := Lib.hid hS2
      have hz6 := gU.size
      obtain ⟨nu1, nu2, nu3, nu4, nu5, nu6⟩ := S2
      obtain ⟨hu1, hu2, hu3, hu4, hu5, hu6⟩ := hS2
      dsimp only [zeroA, List.length_nil] at *
      obtain ⟨u1, v1, rfl, -⟩ := has1 hu1
      obtain ⟨u2, v2, rfl, -⟩ := has1 hu2
      obtain ⟨u3, v3, rfl, -⟩ := has1 hu3
      obtain ⟨u4, v4, rfl, -⟩ := has_rows (f := lnC) (m := 8) (fun _ => rfl) hu4
      obtain ⟨u5, v5, rfl, -⟩ := has_rows (f := upC) (m := 2) (fun _ => rfl) hu5
      obtain ⟨u6, v6, rfl, -⟩ := has_rows (f := ptC) (m := 6) (fun _ => rfl) hu6
      dsimp only [zeroA, List.length_nil] at *
      clear hu1 hu2 hu3 hu4 hu5 hu6
      have hbx := heap_alloc_new w6 (.cells #[.int .i64 0, .int .i64 0, .int .i64 0, .string ⟨#[]⟩, .int .i64 0, .int .i64 0, .string ⟨#[]⟩, .int .i64 0, .int .i64 0, .int .i64 0, .bool false, .bool false, .string ⟨#[]⟩, .slice none 0 0, .slice none 0 0, .slice none 0 0, .string ⟨#[]⟩, .bool false, .slice none 0 0, .string ⟨#[]⟩, .int .i64 0, .bool false, .slice none 0 0, .slice none 0 0] 61)
      have hsz2 : Hid ((Try.prog.info? 61).map (·.size) = some (#[.int .i64 0, .int .i64 0, .int .i64 0, .string ⟨#[]⟩, .int .i64 0, .int .i64 0, .string ⟨#[]⟩, .int .i64 0, .int .i64 0, .int .i64 0, .bool false, .bool false, .string ⟨#[]⟩, .slice u1 0 v1, .slice u2 0 v2, .slice u3 0 v3, .string ⟨#[]⟩, .bool false, .slice u4 0 v4, .string ⟨#[]⟩, .int .i64 0, .bool false, .slice u5 0 v5, .slice u6 0 v6] : Array Value).size) := Lib.hid (by kernel_rfl)
      go_wp2_with ((with_reducible (show wpList _ _ _ (⟨_, Op.store _ _ _, _, _, _, _⟩ :: _) _ _)); refine storeB_list rfl 61 _ _ rfl w6.heap.size #[.int .i64 0, .int .i64 0, .int .i64 0, .string ⟨#[]⟩, .int .i64 0, .int .i64 0, .string ⟨#[]⟩, .int .i64 0, .int .i64 0, .int .i64 0, .bool false, .bool false, .string ⟨#[]⟩, .slice u1 0 v1, .slice u2 0 v2, .slice u3 0 v3, .string ⟨#[]⟩, .bool false, .slice u4 0 v4, .string ⟨#[]⟩, .int .i64 0, .bool false, .slice u5 0 v5, .slice u6 0 v6] _ _ rfl rfl hbx rfl hsz2.out (by simp [Value.oneCell']) ?_)
      intro w7 hb7 hu7
      replace gU := (gU.then_alloc _).trans hu7 fun j hj h => by omega
      have hS7 := Lib.hid ((hS2'.out.non (Upd.alloc Non w6 (.cells #[.int .i64 0, .int .i64 0, .int .i64 0, .string ⟨#[]⟩, .int .i64 0, .int .i64 0, .string ⟨#[]⟩, .int .i64 0, .int .i64 0, .int .i64 0, .bool false, .bool false, .string ⟨#[]⟩, .slice none 0 0, .slice none 0 0, .slice none 0 0, .string ⟨#[]⟩, .bool false, .slice none 0 0, .string ⟨#[]⟩, .int .i64 0, .bool false, .slice none 0 0, .slice none 0 0] 61))).upd hu7 fun k hk e => by have := (hk2 k hk).2; omega)
      have hz7 := Nat.le_trans (Upd.alloc Non w6 (.cells #[.int .i64 0, .int .i64 0, .int .i64 0, .string ⟨#[]⟩, .int .i64 0, .int .i64 0, .string ⟨#[]⟩, .int .i64 0, .int .i64 0, .int .i64 0, .bool false, .bool false, .string ⟨#[]⟩, .slice none 0 0, .slice none 0 0, .slice none 0 0, .string ⟨#[]⟩, .bool false, .slice none 0 0, .string ⟨#[]⟩, .int .i64 0, .bool false, .slice none 0 0, .slice none 0 0] 61)).size hu7.size
      clear hu7 hbx hS2'
      go_wp2_with ((with_reducible (show wpList _ _ _ (⟨_, Op.load _ _, _, _, _, _⟩ :: _) _ _)); refine loadB_list rfl 61 _ rfl w6.heap.size #[.int .i64 0, .int .i64 0, .int .i64 0, .string ⟨#[]⟩, .int .i64 0, .int .i64 0, .string ⟨#[]⟩, .int .i64 0, .int .i64 0, .int .i64 0, .bool false, .bool false, .string ⟨#[]⟩, .slice u1 0 v1, .slice u2 0 v2, .slice u3 0 v3, .string ⟨#[]⟩, .bool false, .slice u4 0 v4, .string ⟨#[]⟩, .int .i64 0, .bool false, .slice u5 0 v5, .slice u6 0 v6] _ _ rfl hb7 Try.underlying61 rfl hsz2.out ?_)
      refine (cZ.out _ _ hS7.out).mono ?_
      rintro en w8 ⟨rfl, hu⟩
      replace gU := gU.trans hu fun _ _ h => h
      clear hu hb7 hS7
      go_wp2_with fail
      refine (cL.out _).mono ?_
      rintro en w9 ⟨rfl, hu⟩
      replace gU := gU.trans hu fun _ _ h => h
      clear hu
      go_wp2_with fail
      go_ret
      exact ⟨rfl, hsu.trans gU fun _ _ h => h⟩
    | some r1 =>
      have cL := Lib.hid lives24
      have cF := Lib.hid (fun w' h => few24 r0 S w' h)
      have cA := Lib.hid (fun w' h hlt => wAnswer2 r0 S w' h hs hlt hid)
      have cH1 := Lib.hid (fun v w' h => wReadAnswer v s1 w' h hl1)
      unfold HeardA at cH1
      rw [hT] at cH1
      rw [show ckA r0 = 0 from if_pos hg, show bytesA r0 = putA r0 from if_pos hg] at cA
      have cH0 := Lib.hid (fun v w' h hl => wReadAnswer v (putA r0) w' h hl)
      unfold HeardA at cH0
      rw [show tellA wTx (putA r0) = some r0 from tell_put wTx_pc hg hid] at cH0
      have cS := Lib.hid (fun S' w' h1 h2 => sAnswer r0 S' S w' h1 h2)
      have hlb := putA_most hg
      generalize putA r0 = bs at *
      obtain ⟨hg1, hp1, hid1⟩ := tell_some hT
      have cA1 := Lib.hid (fun S' w' h hlt => wAnswer2 r1 S' w' h (right_small hg1) hlt hid1)
      rw [show ckA r1 = 0 from if_pos hg1, show bytesA r1 = putA r1 from if_pos hg1, hp1] at cA1
      clear hg1 hp1 hid1
      clear hT hs hid hl1
      have hgg := Lib.hid hg
      clear hg
      have hR' := Lib.hid hR
      obtain ⟨np1, np2, np3, np4, np5, np6⟩ := S
      obtain ⟨hp1, hp2, hp3, hp4, hp5, hp6⟩ := hR
      dsimp only at *
      obtain ⟨p1, q1, rfl, -⟩ := has1 hp1
      obtain ⟨p2, q2, rfl, -⟩ := has1 hp2
      obtain ⟨p3, q3, rfl, -⟩ := has1 hp3
      obtain ⟨p4, q4, rfl, -⟩ := has_rows (f := lnC) (m := 8) (fun _ => rfl) hp4
      obtain ⟨p5, q5, rfl, -⟩ := has_rows (f := upC) (m := 2) (fun _ => rfl) hp5
      obtain ⟨p6, q6, rfl, -⟩ := has_rows (f := ptC) (m := 6) (fun _ => rfl) hp6
      clear hp1 hp2 hp3 hp4 hp5 hp6
      unfold rsV rsC at *
      obtain ⟨err, id, time, text, re, im, version, ⟨size, hre, him, gone, null⟩, body, names, lnames, lpre, next, more, lines, lobject, lid, lmore, ups, parts⟩ := r0
      obtain ⟨errd, idd, timed, textd, red, imd, versiond, ⟨sized, hred, himd, goned, nulld⟩, bodyd, namesd, lnamesd, lpred, nextd, mored, linesd, lobjectd, lidd, lmored, upsd, partsd⟩ := r1
      dsimp only [Option.getD, codeA, Option.isSome] at *
      have hst := heap_alloc_new w (.cells #[.int .i64 err, .int .i64 id, .int .i64 time, .string ⟨text.toArray⟩, .int .i64 re, .int .i64 im, .string ⟨version.toArray⟩, .int .i64 size, .int .i64 hre, .int .i64 him, .bool gone, .bool null, .string ⟨body.toArray⟩, .slice p1 names.length q1, .slice p2 lnames.length q2, .slice p3 lpre.length q3, .string ⟨next.toArray⟩, .bool more, .slice p4 lines.length q4, .string ⟨lobject.toArray⟩, .int .i64 lid, .bool lmore, .slice p5 ups.length q5, .slice p6 parts.length q6] 61)
      have hsu : Upd Non w (w.alloc (.cells #[.int .i64 err, .int .i64 id, .int .i64 time, .string ⟨text.toArray⟩, .int .i64 re, .int .i64 im, .string ⟨version.toArray⟩, .int .i64 size, .int .i64 hre, .int .i64 him, .bool gone, .bool null, .string ⟨body.toArray⟩, .slice p1 names.length q1, .slice p2 lnames.length q2, .slice p3 lpre.length q3, .string ⟨next.toArray⟩, .bool more, .slice p4 lines.length q4, .string ⟨lobject.toArray⟩, .int .i64 lid, .bool lmore, .slice p5 ups.length q5, .slice p6 parts.length q6] 61)) := Upd.alloc _ _ _
      have hsz : Hid ((Try.prog.info? 61).map (·.size) = some (#[.int .i64 err, .int .i64 id, .int .i64 time, .string ⟨text.toArray⟩, .int .i64 re, .int .i64 im, .string ⟨version.toArray⟩, .int .i64 size, .int .i64 hre, .int .i64 him, .bool gone, .bool null, .string ⟨body.toArray⟩, .slice p1 names.length q1, .slice p2 lnames.length q2, .slice p3 lpre.length q3, .string ⟨next.toArray⟩, .bool more, .slice p4 lines.length q4, .string ⟨lobject.toArray⟩, .int .i64 lid, .bool lmore, .slice p5 ups.length q5, .slice p6 parts.length q6] : Array Value).size) := Lib.hid (by kernel_rfl)
      have hR0 := Lib.hid (hR'.out.non hsu)
      have hB1 := Lib.hid (hB.non hsu)
      have gU := Upd.refl Non (w.alloc (.cells #[.int .i64 err, .int .i64 id, .int .i64 time, .string ⟨text.toArray⟩, .int .i64 re, .int .i64 im, .string ⟨version.toArray⟩, .int .i64 size, .int .i64 hre, .int .i64 him, .bool gone, .bool null, .string ⟨body.toArray⟩, .slice p1 names.length q1, .slice p2 lnames.length q2, .slice p3 lpre.length q3, .string ⟨next.toArray⟩, .bool more, .slice p4 lines.length q4, .string ⟨lobject.toArray⟩, .int .i64 lid, .bool lmore, .slice p5 ups.length q5, .slice p6 parts.length q6] 61))
      have hz := hsu.size
      obtain ⟨vb1, vb2, rfl⟩ := bytes_form hB
      clear hR' hB
      go_enter Try.func7, Try.ntmps7
      go_wp2_with ((with_reducible (show wpList _ _ _ (⟨_, Op.load _ _, _, _, _, _⟩ :: _) _ _)); refine loadB_list rfl 61 _ rfl w.heap.size #[.int .i64 err, .int .i64 id, .int .i64 time, .string ⟨text.toArray⟩, .int .i64 re, .int .i64 im, .string ⟨version.toArray⟩, .int .i64 size, .int .i64 hre, .int .i64 him, .bool gone, .bool null, .string ⟨body.toArray⟩, .slice p1 names.length q1, .slice p2 lnames.length q2, .slice p3 lpre.length q3, .string ⟨next.toArray⟩, .bool more, .slice p4 lines.length q4, .string ⟨lobject.toArray⟩, .int .i64 lid, .bool lmore, .slice p5 ups.length q5, .slice p6 parts.length q6] _ _ rfl hst Try.underlying61 rfl hsz.out ?_)
      refine (cF.out _ (hR0.out.non gU)).mono ?_
      rintro en w1 ⟨b, rfl, hu⟩
      replace gU := gU.trans hu fun _ _ h => h
      clear hu cF
      cases b
      case false =>
        clear hst hR0 hB1
        go_wp2_with fail
        refine (cL.out _).mono ?_
        rintro en w2 ⟨rfl, hu⟩
        replace gU := gU.trans hu fun _ _ h => h
        clear hu
        go_wp2_with fail
        go_ret
        exact ⟨rfl, hsu.trans gU fun _ _ h => h⟩
      go_wp2_with ((with_reducible (show wpList _ _ _ (⟨_, Op.load _ _, _, _, _, _⟩ :: _) _ _)); refine loadB_list rfl 61 _ rfl w.heap.size #[.int .i64 err, .int .i64 id, .int .i64 time, .string ⟨text.toArray⟩, .int .i64 re, .int .i64 im, .string ⟨version.toArray⟩, .int .i64 size, .int .i64 hre, .int .i64 him, .bool gone, .bool null, .string ⟨body.toArray⟩, .slice p1 names.length q1, .slice p2 lnames.length q2, .slice p3 lpre.length q3, .string ⟨next.toArray⟩, .bool more, .slice p4 lines.length q4, .string ⟨lobject.toArray⟩, .int .i64 lid, .bool lmore, .slice p5 ups.length q5, .slice p6 parts.length q6] _ _ rfl (gU.heap hst fun h => h) Try.underlying61 rfl hsz.out ?_)
      refine (cA.out _ (hR0.out.non gU) (fun k hk => by have := hlt k hk; have := gU.size; omega)).mono ?_
      rintro en w2 ⟨bv, rfl, hbv, hu, hbk⟩
      replace gU := gU.trans hu fun _ _ h => h
      clear hu cA hbk
      obtain ⟨va0, vc0, rfl⟩ := bytes_form hbv
      have hlv : bs.length ≤ 140737488355328 := hlb
      go_wp2_with fail
      refine (cH0.out _ _ hbv hlv).mono ?_
      rintro en w3 ⟨S1, rfl, hS1, hk1, hu⟩
      replace gU := gU.trans hu fun _ _ h => h
      clear hu cH0 hbv hlv
      have hS1' := Lib.hid hS1
      have hz3 := gU.size
      obtain ⟨ns1, ns2, ns3, ns4, ns5, ns6⟩ := S1
      obtain ⟨hs1, hs2, hs3, hs4, hs5, hs6⟩ := hS1
      dsimp only at *
      obtain ⟨s1, t1, rfl, -⟩ := has1 hs1
      obtain ⟨s2, t2, rfl, -⟩ := has1 hs2
      obtain ⟨s3, t3, rfl, -⟩ := has1 hs3
      obtain ⟨s4, t4, rfl, -⟩ := has_rows (f := lnC) (m := 8) (fun _ => rfl) hs4
      obtain ⟨s5, t5, rfl, -⟩ := has_rows (f := upC) (m := 2) (fun _ => rfl) hs5
      obtain ⟨s6, t6, rfl, -⟩ := has_rows (f := ptC) (m := 6) (fun _ => rfl) hs6
      clear hs1 hs2 hs3 hs4 hs5 hs6
      have hbx := heap_alloc_new w3 (.cells #[.int .i64 0, .int .i64 0, .int .i64 0, .string ⟨#[]⟩, .int .i64 0, .int .i64 0, .string ⟨#[]⟩, .int .i64 0, .int .i64 0, .int .i64 0, .bool false, .bool false, .string ⟨#[]⟩, .slice none 0 0, .slice none 0 0, .slice none 0 0, .string ⟨#[]⟩, .bool false, .slice none 0 0, .string ⟨#[]⟩, .int .i64 0, .bool false, .slice none 0 0, .slice none 0 0] 61)
      have hsz1 : Hid ((Try.prog.info? 61).map (·.size) = some (#[.int .i64 err, .int .i64 id, .int .i64 time, .string ⟨text.toArray⟩, .int .i64 re, .int .i64 im, .string ⟨version.toArray⟩, .int .i64 size, .int .i64 hre, .int .i64 him, .bool gone, .bool null, .string ⟨body.toArray⟩, .slice s1 names.length t1, .slice s2 lnames.length t2, .slice s3 lpre.length t3, .string ⟨next.toArray⟩, .bool more, .slice s4 lines.length t4, .string ⟨lobject.toArray⟩, .int .i64 lid, .bool lmore, .slice s5 ups.length t5, .slice s6 parts.length t6] : Array Value).size) := Lib.hid (by kernel_rfl)
      go_wp2_with ((with_reducible (show wpList _ _ _ (⟨_, Op.store _ _ _, _, _, _, _⟩ :: _) _ _)); refine storeB_list rfl 61 _ _ rfl w3.heap.size #[.int .i64 err, .int .i64 id, .int .i64 time, .string ⟨text.toArray⟩, .int .i64 re, .int .i64 im, .string ⟨version.toArray⟩, .int .i64 size, .int .i64 hre, .int .i64 him, .bool gone, .bool null, .string ⟨body.toArray⟩, .slice s1 names.length t1, .slice s2 lnames.length t2, .slice s3 lpre.length t3, .string ⟨next.toArray⟩, .bool more, .slice s4 lines.length t4, .string ⟨lobject.toArray⟩, .int .i64 lid, .bool lmore, .slice s5 ups.length t5, .slice s6 parts.length t6] _ _ rfl rfl hbx rfl hsz1.out (by simp [Value.oneCell']) ?_)
      intro w4 hb4 hu4
      replace gU := (gU.then_alloc _).trans hu4 fun j hj h => by omega
      have hS4 := Lib.hid ((hS1'.out.non (Upd.alloc Non w3 (.cells #[.int .i64 0, .int .i64 0, .int .i64 0, .string ⟨#[]⟩, .int .i64 0, .int .i64 0, .string ⟨#[]⟩, .int .i64 0, .int .i64 0, .int .i64 0, .bool false, .bool false, .string ⟨#[]⟩, .slice none 0 0, .slice none 0 0, .slice none 0 0, .string ⟨#[]⟩, .bool false, .slice none 0 0, .string ⟨#[]⟩, .int .i64 0, .bool false, .slice none 0 0, .slice none 0 0] 61))).upd hu4 fun k hk e => by have := (hk1 k hk).2; omega)
      clear hu4 hbx hS1' hk1
      go_wp2_with (first | ((with_reducible (show wpList _ _ _ (⟨_, Op.load _ _, _, _, _, _⟩ :: _) _ _)); refine loadB_list rfl 61 _ rfl w3.heap.size #[.int .i64 err, .int .i64 id, .int .i64 time, .string ⟨text.toArray⟩, .int .i64 re, .int .i64 im, .string ⟨version.toArray⟩, .int .i64 size, .int .i64 hre, .int .i64 him, .bool gone, .bool null, .string ⟨body.toArray⟩, .slice s1 names.length t1, .slice s2 lnames.length t2, .slice s3 lpre.length t3, .string ⟨next.toArray⟩, .bool more, .slice s4 lines.length t4, .string ⟨lobject.toArray⟩, .int .i64 lid, .bool lmore, .slice s5 ups.length t5, .slice s6 parts.length t6] _ _ rfl hb4 Try.underlying61 rfl hsz1.out ?_) | ((with_reducible (show wpList _ _ _ (⟨_, Op.load _ _, _, _, _, _⟩ :: _) _ _)); refine loadB_list rfl 61 _ rfl w.heap.size #[.int .i64 err, .int .i64 id, .int .i64 time, .string ⟨text.toArray⟩, .int .i64 re, .int .i64 im, .string ⟨version.toArray⟩, .int .i64 size, .int .i64 hre, .int .i64 him, .bool gone, .bool null, .string ⟨body.toArray⟩, .slice p1 names.length q1, .slice p2 lnames.length q2, .slice p3 lpre.length q3, .string ⟨next.toArray⟩, .bool more, .slice p4 lines.length q4, .string ⟨lobject.toArray⟩, .int .i64 lid, .bool lmore, .slice p5 ups.length q5, .slice p6 parts.length q6] _ _ rfl (gU.heap hst fun h => h) Try.underlying61 rfl hsz.out ?_))
      refine (cS.out _ _ hS4.out (hR0.out.non gU)).mono ?_
      rintro en w5 ⟨rfl, hu⟩
      replace gU := gU.trans hu fun _ _ h => h
      clear hu cS hS4 hb4 hz3 hst hsz1
      go_wp2_with fail
      refine (cH1.out _ _ (hB1.out.non gU)).mono ?_
      rintro en w6 ⟨S2, rfl, hS2, hk2, hu⟩
      replace gU := gU.trans hu fun _ _ h => h
      clear hu cH1
      have hS2' := Lib.hid hS2
      have hz6 := gU.size
      obtain ⟨nu1, nu2, nu3, nu4, nu5, nu6⟩ := S2
      obtain ⟨hu1, hu2, hu3, hu4, hu5, hu6⟩ := hS2
      dsimp only at *
      obtain ⟨u1, v1, rfl, -⟩ := has1 hu1
      obtain ⟨u2, v2, rfl, -⟩ := has1 hu2
      obtain ⟨u3, v3, rfl, -⟩ := has1 hu3
      obtain ⟨u4, v4, rfl, -⟩ := has_rows (f := lnC) (m := 8) (fun _ => rfl) hu4
      obtain ⟨u5, v5, rfl, -⟩ := has_rows (f := upC) (m := 2) (fun _ => rfl) hu5
      obtain ⟨u6, v6, rfl, -⟩ := has_rows (f := ptC) (m := 6) (fun _ => rfl) hu6
      clear hu1 hu2 hu3 hu4 hu5 hu6
      have hbx := heap_alloc_new w6 (.cells #[.int .i64 0, .int .i64 0, .int .i64 0, .string ⟨#[]⟩, .int .i64 0, .int .i64 0, .string ⟨#[]⟩, .int .i64 0, .int .i64 0, .int .i64 0, .bool false, .bool false, .string ⟨#[]⟩, .slice none 0 0, .slice none 0 0, .slice none 0 0, .string ⟨#[]⟩, .bool false, .slice none 0 0, .string ⟨#[]⟩, .int .i64 0, .bool false, .slice none 0 0, .slice none 0 0] 61)
      have hsz2 : Hid ((Try.prog.info? 61).map (·.size) = some (#[.int .i64 errd, .int .i64 idd, .int .i64 timed, .string ⟨textd.toArray⟩, .int .i64 red, .int .i64 imd, .string ⟨versiond.toArray⟩, .int .i64 sized, .int .i64 hred, .int .i64 himd, .bool goned, .bool nulld, .string ⟨bodyd.toArray⟩, .slice u1 namesd.length v1, .slice u2 lnamesd.length v2, .slice u3 lpred.length v3, .string ⟨nextd.toArray⟩, .bool mored, .slice u4 linesd.length v4, .string ⟨lobjectd.toArray⟩, .int .i64 lidd, .bool lmored, .slice u5 upsd.length v5, .slice u6 partsd.length v6] : Array Value).size) := Lib.hid (by kernel_rfl)
      go_wp2_with ((with_reducible (show wpList _ _ _ (⟨_, Op.store _ _ _, _, _, _, _⟩ :: _) _ _)); refine storeB_list rfl 61 _ _ rfl w6.heap.size #[.int .i64 errd, .int .i64 idd, .int .i64 timed, .string ⟨textd.toArray⟩, .int .i64 red, .int .i64 imd, .string ⟨versiond.toArray⟩, .int .i64 sized, .int .i64 hred, .int .i64 himd, .bool goned, .bool nulld, .string ⟨bodyd.toArray⟩, .slice u1 namesd.length v1, .slice u2 lnamesd.length v2, .slice u3 lpred.length v3, .string ⟨nextd.toArray⟩, .bool mored, .slice u4 linesd.length v4, .string ⟨lobjectd.toArray⟩, .int .i64 lidd, .bool lmored, .slice u5 upsd.length v5, .slice u6 partsd.length v6] _ _ rfl rfl hbx rfl hsz2.out (by simp [Value.oneCell']) ?_)
      intro w7 hb7 hu7
      replace gU := (gU.then_alloc _).trans hu7 fun j hj h => by omega
      have hS7 := Lib.hid ((hS2'.out.non (Upd.alloc Non w6 (.cells #[.int .i64 0, .int .i64 0, .int .i64 0, .string ⟨#[]⟩, .int .i64 0, .int .i64 0, .string ⟨#[]⟩, .int .i64 0, .int .i64 0, .int .i64 0, .bool false, .bool false, .string ⟨#[]⟩, .slice none 0 0, .slice none 0 0, .slice none 0 0, .string ⟨#[]⟩, .bool false, .slice none 0 0, .string ⟨#[]⟩, .int .i64 0, .bool false, .slice none 0 0, .slice none 0 0] 61))).upd hu7 fun k hk e => by have := (hk2 k hk).2; omega)
      have hz7 := Nat.le_trans (Upd.alloc Non w6 (.cells #[.int .i64 0, .int .i64 0, .int .i64 0, .string ⟨#[]⟩, .int .i64 0, .int .i64 0, .string ⟨#[]⟩, .int .i64 0, .int .i64 0, .int .i64 0, .bool false, .bool false, .string ⟨#[]⟩, .slice none 0 0, .slice none 0 0, .slice none 0 0, .string ⟨#[]⟩, .bool false, .slice none 0 0, .string ⟨#[]⟩, .int .i64 0, .bool false, .slice none 0 0, .slice none 0 0] 61)).size hu7.size
      clear hu7 hbx hS2'
      go_wp2_with ((with_reducible (show wpList _ _ _ (⟨_, Op.load _ _, _, _, _, _⟩ :: _) _ _)); refine loadB_list rfl 61 _ rfl w6.heap.size #[.int .i64 errd, .int .i64 idd, .int .i64 timed, .string ⟨textd.toArray⟩, .int .i64 red, .int .i64 imd, .string ⟨versiond.toArray⟩, .int .i64 sized, .int .i64 hred, .int .i64 himd, .bool goned, .bool nulld, .string ⟨bodyd.toArray⟩, .slice u1 namesd.length v1, .slice u2 lnamesd.length v2, .slice u3 lpred.length v3, .string ⟨nextd.toArray⟩, .bool mored, .slice u4 linesd.length v4, .string ⟨lobjectd.toArray⟩, .int .i64 lidd, .bool lmored, .slice u5 upsd.length v5, .slice u6 partsd.length v6] _ _ rfl hb7 Try.underlying61 rfl hsz2.out ?_)
      refine (cA1.out _ w7 hS7.out (fun k hk => by have := (hk2 k hk).2; omega)).mono ?_
      rintro en w8 ⟨bv, rfl, hbv, hu, -⟩
      replace gU := gU.trans hu fun _ _ h => h
      have st1 := run_str (P := Try.prog) _ 32 9 5 Try.underlying32 Try.underlying5 Try.underlying9 _ _ hbv
      have st2 := run_str (P := Try.prog) _ 32 9 5 Try.underlying32 Try.underlying5 Try.underlying9 _ _ (hB1.out.non gU)
      obtain ⟨va, vc, rfl⟩ := bytes_form hbv
      clear hu hb7 hS7 hbv
      go_wp2_with fail
      refine (cL.out _).mono ?_
      rintro en w9 ⟨rfl, hu⟩
      replace gU := gU.trans hu fun _ _ h => h
      clear hu
      go_wp2_with fail
      go_ret
      exact ⟨rfl, hsu.trans gU fun _ _ h => h⟩
  case neg =>
    cases hT : tellA wTx s1 with
    | none =>
      have cL := Lib.hid lives24
      have cF := Lib.hid (fun w' h => few24 r0 S w' h)
      have cA := Lib.hid (fun w' h hlt => wAnswer2 r0 S w' h hs hlt hid)
      have cH1 := Lib.hid (fun v w' h => wReadAnswer v s1 w' h hl1)
      unfold HeardA at cH1
      rw [hT] at cH1
      rw [show ckA r0 = 4 from if_neg hg, show bytesA r0 = [] from if_neg hg] at cA
      have cZ := Lib.hid (fun S' w' h => sAnswer zeroA S' S0 w' h (S0_at w' zeroA rfl rfl rfl rfl rfl rfl))
      clear hT hs hid hl1
      have hgg := Lib.hid hg
      clear hg
      have hR' := Lib.hid hR
      obtain ⟨np1, np2, np3, np4, np5, np6⟩ := S
      obtain ⟨hp1, hp2, hp3, hp4, hp5, hp6⟩ := hR
      dsimp only at *
      obtain ⟨p1, q1, rfl, -⟩ := has1 hp1
      obtain ⟨p2, q2, rfl, -⟩ := has1 hp2
      obtain ⟨p3, q3, rfl, -⟩ := has1 hp3
      obtain ⟨p4, q4, rfl, -⟩ := has_rows (f := lnC) (m := 8) (fun _ => rfl) hp4
      obtain ⟨p5, q5, rfl, -⟩ := has_rows (f := upC) (m := 2) (fun _ => rfl) hp5
      obtain ⟨p6, q6, rfl, -⟩ := has_rows (f := ptC) (m := 6) (fun _ => rfl) hp6
      clear hp1 hp2 hp3 hp4 hp5 hp6
      unfold rsV rsC at *
      obtain ⟨err, id, time, text, re, im, version, ⟨size, hre, him, gone, null⟩, body, names, lnames, lpre, next, more, lines, lobject, lid, lmore, ups, parts⟩ := r0
      dsimp only [Option.getD, codeA, Option.isSome] at *
      try dsimp only [zeroA, S0] at *
      have hst := heap_alloc_new w (.cells #[.int .i64 err, .int .i64 id, .int .i64 time, .string ⟨text.toArray⟩, .int .i64 re, .int .i64 im, .string ⟨version.toArray⟩, .int .i64 size, .int .i64 hre, .int .i64 him, .bool gone, .bool null, .string ⟨body.toArray⟩, .slice p1 names.length q1, .slice p2 lnames.length q2, .slice p3 lpre.length q3, .string ⟨next.toArray⟩, .bool more, .slice p4 lines.length q4, .string ⟨lobject.toArray⟩, .int .i64 lid, .bool lmore, .slice p5 ups.length q5, .slice p6 parts.length q6] 61)
      have hsu : Upd Non w (w.alloc (.cells #[.int .i64 err, .int .i64 id, .int .i64 time, .string ⟨text.toArray⟩, .int .i64 re, .int .i64 im, .string ⟨version.toArray⟩, .int .i64 size, .int .i64 hre, .int .i64 him, .bool gone, .bool null, .string ⟨body.toArray⟩, .slice p1 names.length q1, .slice p2 lnames.length q2, .slice p3 lpre.length q3, .string ⟨next.toArray⟩, .bool more, .slice p4 lines.length q4, .string ⟨lobject.toArray⟩, .int .i64 lid, .bool lmore, .slice p5 ups.length q5, .slice p6 parts.length q6] 61)) := Upd.alloc _ _ _
      have hsz : Hid ((Try.prog.info? 61).map (·.size) = some (#[.int .i64 err, .int .i64 id, .int .i64 time, .string ⟨text.toArray⟩, .int .i64 re, .int .i64 im, .string ⟨version.toArray⟩, .int .i64 size, .int .i64 hre, .int .i64 him, .bool gone, .bool null, .string ⟨body.toArray⟩, .slice p1 names.length q1, .slice p2 lnames.length q2, .slice p3 lpre.length q3, .string ⟨next.toArray⟩, .bool more, .slice p4 lines.length q4, .string ⟨lobject.toArray⟩, .int .i64 lid, .bool lmore, .slice p5 ups.length q5, .slice p6 parts.length q6] : Array Value).size) := Lib.hid (by kernel_rfl)
      have hR0 := Lib.hid (hR'.out.non hsu)
      have hB1 := Lib.hid (hB.non hsu)
      have gU := Upd.refl Non (w.alloc (.cells #[.int .i64 err, .int .i64 id, .int .i64 time, .string ⟨text.toArray⟩, .int .i64 re, .int .i64 im, .string ⟨version.toArray⟩, .int .i64 size, .int .i64 hre, .int .i64 him, .bool gone, .bool null, .string ⟨body.toArray⟩, .slice p1 names.length q1, .slice p2 lnames.length q2, .slice p3 lpre.length q3, .string ⟨next.toArray⟩, .bool more, .slice p4 lines.length q4, .string ⟨lobject.toArray⟩, .int .i64 lid, .bool lmore, .slice p5 ups.length q5, .slice p6 parts.length q6] 61))
      have hz := hsu.size
      obtain ⟨vb1, vb2, rfl⟩ := bytes_form hB
      clear hR' hB
      go_enter Try.func7, Try.ntmps7
      go_wp2_with ((with_reducible (show wpList _ _ _ (⟨_, Op.load _ _, _, _, _, _⟩ :: _) _ _)); refine loadB_list rfl 61 _ rfl w.heap.size #[.int .i64 err, .int .i64 id, .int .i64 time, .string ⟨text.toArray⟩, .int .i64 re, .int .i64 im, .string ⟨version.toArray⟩, .int .i64 size, .int .i64 hre, .int .i64 him, .bool gone, .bool null, .string ⟨body.toArray⟩, .slice p1 names.length q1, .slice p2 lnames.length q2, .slice p3 lpre.length q3, .string ⟨next.toArray⟩, .bool more, .slice p4 lines.length q4, .string ⟨lobject.toArray⟩, .int .i64 lid, .bool lmore, .slice p5 ups.length q5, .slice p6 parts.length q6] _ _ rfl hst Try.underlying61 rfl hsz.out ?_)
      refine (cF.out _ (hR0.out.non gU)).mono ?_
      rintro en w1 ⟨b, rfl, hu⟩
      replace gU := gU.trans hu fun _ _ h => h
      clear hu cF
      cases b
      case false =>
        clear hst hR0 hB1
        go_wp2_with fail
        refine (cL.out _).mono ?_
        rintro en w2 ⟨rfl, hu⟩
        replace gU := gU.trans hu fun _ _ h => h
        clear hu
        go_wp2_with fail
        go_ret
        exact ⟨rfl, hsu.trans gU fun _ _ h => h⟩
      go_wp2_with ((with_reducible (show wpList _ _ _ (⟨_, Op.load _ _, _, _, _, _⟩ :: _) _ _)); refine loadB_list rfl 61 _ rfl w.heap.size #[.int .i64 err, .int .i64 id, .int .i64 time, .string ⟨text.toArray⟩, .int .i64 re, .int .i64 im, .string ⟨version.toArray⟩, .int .i64 size, .int .i64 hre, .int .i64 him, .bool gone, .bool null, .string ⟨body.toArray⟩, .slice p1 names.length q1, .slice p2 lnames.length q2, .slice p3 lpre.length q3, .string ⟨next.toArray⟩, .bool more, .slice p4 lines.length q4, .string ⟨lobject.toArray⟩, .int .i64 lid, .bool lmore, .slice p5 ups.length q5, .slice p6 parts.length q6] _ _ rfl (gU.heap hst fun h => h) Try.underlying61 rfl hsz.out ?_)
      refine (cA.out _ (hR0.out.non gU) (fun k hk => by have := hlt k hk; have := gU.size; omega)).mono ?_
      rintro en w2 ⟨bv, rfl, hbv, hu, hbk⟩
      replace gU := gU.trans hu fun _ _ h => h
      clear hu cA hbk
      obtain ⟨va0, vc0, rfl⟩ := bytes_form hbv
      clear hbv hst
      go_wp2_with fail
      refine (cH1.out _ _ (hB1.out.non gU)).mono ?_
      rintro en w6 ⟨S2, rfl, hS2, hk2, hu⟩
      replace gU := gU.trans hu fun _ _ h => h
      clear hu cH1
      have hS2' := Lib.hid hS2
      have hz6 := gU.size
      obtain ⟨nu1, nu2, nu3, nu4, nu5, nu6⟩ := S2
      obtain ⟨hu1, hu2, hu3, hu4, hu5, hu6⟩ := hS2
      dsimp only [zeroA, List.length_nil] at *
      obtain ⟨u1, v1, rfl, -⟩ := has1 hu1
      obtain ⟨u2, v2, rfl, -⟩ := has1 hu2
      obtain ⟨u3, v3, rfl, -⟩ := has1 hu3
      obtain ⟨u4, v4, rfl, -⟩ := has_rows (f := lnC) (m := 8) (fun _ => rfl) hu4
      obtain ⟨u5, v5, rfl, -⟩ := has_rows (f := upC) (m := 2) (fun _ => rfl) hu5
      obtain ⟨u6, v6, rfl, -⟩ := has_rows (f := ptC) (m := 6) (fun _ => rfl) hu6
      dsimp only [zeroA, List.length_nil] at *
      clear hu1 hu2 hu3 hu4 hu5 hu6
      have hbx := heap_alloc_new w6 (.cells #[.int .i64 0, .int .i64 0, .int .i64 0, .string ⟨#[]⟩, .int .i64 0, .int .i64 0, .string ⟨#[]⟩, .int .i64 0, .int .i64 0, .int .i64 0, .bool false, .bool false, .string ⟨#[]⟩, .slice none 0 0, .slice none 0 0, .slice none 0 0, .string ⟨#[]⟩, .bool false, .slice none 0 0, .string ⟨#[]⟩, .int .i64 0, .bool false, .slice none 0 0, .slice none 0 0] 61)
      have hsz2 : Hid ((Try.prog.info? 61).map (·.size) = some (#[.int .i64 0, .int .i64 0, .int .i64 0, .string ⟨#[]⟩, .int .i64 0, .int .i64 0, .string ⟨#[]⟩, .int .i64 0, .int .i64 0, .int .i64 0, .bool false, .bool false, .string ⟨#[]⟩, .slice u1 0 v1, .slice u2 0 v2, .slice u3 0 v3, .string ⟨#[]⟩, .bool false, .slice u4 0 v4, .string ⟨#[]⟩, .int .i64 0, .bool false, .slice u5 0 v5, .slice u6 0 v6] : Array Value).size) := Lib.hid (by kernel_rfl)
      go_wp2_with ((with_reducible (show wpList _ _ _ (⟨_, Op.store _ _ _, _, _, _, _⟩ :: _) _ _)); refine storeB_list rfl 61 _ _ rfl w6.heap.size #[.int .i64 0, .int .i64 0, .int .i64 0, .string ⟨#[]⟩, .int .i64 0, .int .i64 0, .string ⟨#[]⟩, .int .i64 0, .int .i64 0, .int .i64 0, .bool false, .bool false, .string ⟨#[]⟩, .slice u1 0 v1, .slice u2 0 v2, .slice u3 0 v3, .string ⟨#[]⟩, .bool false, .slice u4 0 v4, .string ⟨#[]⟩, .int .i64 0, .bool false, .slice u5 0 v5, .slice u6 0 v6] _ _ rfl rfl hbx rfl hsz2.out (by simp [Value.oneCell']) ?_)
      intro w7 hb7 hu7
      replace gU := (gU.then_alloc _).trans hu7 fun j hj h => by omega
      have hS7 := Lib.hid ((hS2'.out.non (Upd.alloc Non w6 (.cells #[.int .i64 0, .int .i64 0, .int .i64 0, .string ⟨#[]⟩, .int .i64 0, .int .i64 0, .string ⟨#[]⟩, .int .i64 0, .int .i64 0, .int .i64 0, .bool false, .bool false, .string ⟨#[]⟩, .slice none 0 0, .slice none 0 0, .slice none 0 0, .string ⟨#[]⟩, .bool false, .slice none 0 0, .string ⟨#[]⟩, .int .i64 0, .bool false, .slice none 0 0, .slice none 0 0] 61))).upd hu7 fun k hk e => by have := (hk2 k hk).2; omega)
      have hz7 := Nat.le_trans (Upd.alloc Non w6 (.cells #[.int .i64 0, .int .i64 0, .int .i64 0, .string ⟨#[]⟩, .int .i64 0, .int .i64 0, .string ⟨#[]⟩, .int .i64 0, .int .i64 0, .int .i64 0, .bool false, .bool false, .string ⟨#[]⟩, .slice none 0 0, .slice none 0 0, .slice none 0 0, .string ⟨#[]⟩, .bool false, .slice none 0 0, .string ⟨#[]⟩, .int .i64 0, .bool false, .slice none 0 0, .slice none 0 0] 61)).size hu7.size
      clear hu7 hbx hS2'
      go_wp2_with ((with_reducible (show wpList _ _ _ (⟨_, Op.load _ _, _, _, _, _⟩ :: _) _ _)); refine loadB_list rfl 61 _ rfl w6.heap.size #[.int .i64 0, .int .i64 0, .int .i64 0, .string ⟨#[]⟩, .int .i64 0, .int .i64 0, .string ⟨#[]⟩, .int .i64 0, .int .i64 0, .int .i64 0, .bool false, .bool false, .string ⟨#[]⟩, .slice u1 0 v1, .slice u2 0 v2, .slice u3 0 v3, .string ⟨#[]⟩, .bool false, .slice u4 0 v4, .string ⟨#[]⟩, .int .i64 0, .bool false, .slice u5 0 v5, .slice u6 0 v6] _ _ rfl hb7 Try.underlying61 rfl hsz2.out ?_)
      refine (cZ.out _ _ hS7.out).mono ?_
      rintro en w8 ⟨rfl, hu⟩
      replace gU := gU.trans hu fun _ _ h => h
      clear hu hb7 hS7
      go_wp2_with fail
      refine (cL.out _).mono ?_
      rintro en w9 ⟨rfl, hu⟩
      replace gU := gU.trans hu fun _ _ h => h
      clear hu
      go_wp2_with fail
      go_ret
      exact ⟨rfl, hsu.trans gU fun _ _ h => h⟩
    | some r1 =>
      have cL := Lib.hid lives24
      have cF := Lib.hid (fun w' h => few24 r0 S w' h)
      have cA := Lib.hid (fun w' h hlt => wAnswer2 r0 S w' h hs hlt hid)
      have cH1 := Lib.hid (fun v w' h => wReadAnswer v s1 w' h hl1)
      unfold HeardA at cH1
      rw [hT] at cH1
      rw [show ckA r0 = 4 from if_neg hg, show bytesA r0 = [] from if_neg hg] at cA
      obtain ⟨hg1, hp1, hid1⟩ := tell_some hT
      have cA1 := Lib.hid (fun S' w' h hlt => wAnswer2 r1 S' w' h (right_small hg1) hlt hid1)
      rw [show ckA r1 = 0 from if_pos hg1, show bytesA r1 = putA r1 from if_pos hg1, hp1] at cA1
      clear hg1 hp1 hid1
      clear hT hs hid hl1
      have hgg := Lib.hid hg
      clear hg
      have hR' := Lib.hid hR
      obtain ⟨np1, np2, np3, np4, np5, np6⟩ := S
      obtain ⟨hp1, hp2, hp3, hp4, hp5, hp6⟩ := hR
      dsimp only at *
      obtain ⟨p1, q1, rfl, -⟩ := has1 hp1
      obtain ⟨p2, q2, rfl, -⟩ := has1 hp2
      obtain ⟨p3, q3, rfl, -⟩ := has1 hp3
      obtain ⟨p4, q4, rfl, -⟩ := has_rows (f := lnC) (m := 8) (fun _ => rfl) hp4
      obtain ⟨p5, q5, rfl, -⟩ := has_rows (f := upC) (m := 2) (fun _ => rfl) hp5
      obtain ⟨p6, q6, rfl, -⟩ := has_rows (f := ptC) (m := 6) (fun _ => rfl) hp6
      clear hp1 hp2 hp3 hp4 hp5 hp6
      unfold rsV rsC at *
      obtain ⟨err, id, time, text, re, im, version, ⟨size, hre, him, gone, null⟩, body, names, lnames, lpre, next, more, lines, lobject, lid, lmore, ups, parts⟩ := r0
      obtain ⟨errd, idd, timed, textd, red, imd, versiond, ⟨sized, hred, himd, goned, nulld⟩, bodyd, namesd, lnamesd, lpred, nextd, mored, linesd, lobjectd, lidd, lmored, upsd, partsd⟩ := r1
      dsimp only [Option.getD, codeA, Option.isSome] at *
      have hst := heap_alloc_new w (.cells #[.int .i64 err, .int .i64 id, .int .i64 time, .string ⟨text.toArray⟩, .int .i64 re, .int .i64 im, .string ⟨version.toArray⟩, .int .i64 size, .int .i64 hre, .int .i64 him, .bool gone, .bool null, .string ⟨body.toArray⟩, .slice p1 names.length q1, .slice p2 lnames.length q2, .slice p3 lpre.length q3, .string ⟨next.toArray⟩, .bool more, .slice p4 lines.length q4, .string ⟨lobject.toArray⟩, .int .i64 lid, .bool lmore, .slice p5 ups.length q5, .slice p6 parts.length q6] 61)
      have hsu : Upd Non w (w.alloc (.cells #[.int .i64 err, .int .i64 id, .int .i64 time, .string ⟨text.toArray⟩, .int .i64 re, .int .i64 im, .string ⟨version.toArray⟩, .int .i64 size, .int .i64 hre, .int .i64 him, .bool gone, .bool null, .string ⟨body.toArray⟩, .slice p1 names.length q1, .slice p2 lnames.length q2, .slice p3 lpre.length q3, .string ⟨next.toArray⟩, .bool more, .slice p4 lines.length q4, .string ⟨lobject.toArray⟩, .int .i64 lid, .bool lmore, .slice p5 ups.length q5, .slice p6 parts.length q6] 61)) := Upd.alloc _ _ _
      have hsz : Hid ((Try.prog.info? 61).map (·.size) = some (#[.int .i64 err, .int .i64 id, .int .i64 time, .string ⟨text.toArray⟩, .int .i64 re, .int .i64 im, .string ⟨version.toArray⟩, .int .i64 size, .int .i64 hre, .int .i64 him, .bool gone, .bool null, .string ⟨body.toArray⟩, .slice p1 names.length q1, .slice p2 lnames.length q2, .slice p3 lpre.length q3, .string ⟨next.toArray⟩, .bool more, .slice p4 lines.length q4, .string ⟨lobject.toArray⟩, .int .i64 lid, .bool lmore, .slice p5 ups.length q5, .slice p6 parts.length q6] : Array Value).size) := Lib.hid (by kernel_rfl)
      have hR0 := Lib.hid (hR'.out.non hsu)
      have hB1 := Lib.hid (hB.non hsu)
      have gU := Upd.refl Non (w.alloc (.cells #[.int .i64 err, .int .i64 id, .int .i64 time, .string ⟨text.toArray⟩, .int .i64 re, .int .i64 im, .string ⟨version.toArray⟩, .int .i64 size, .int .i64 hre, .int .i64 him, .bool gone, .bool null, .string ⟨body.toArray⟩, .slice p1 names.length q1, .slice p2 lnames.length q2, .slice p3 lpre.length q3, .string ⟨next.toArray⟩, .bool more, .slice p4 lines.length q4, .string ⟨lobject.toArray⟩, .int .i64 lid, .bool lmore, .slice p5 ups.length q5, .slice p6 parts.length q6] 61))
      have hz := hsu.size
      obtain ⟨vb1, vb2, rfl⟩ := bytes_form hB
      clear hR' hB
      go_enter Try.func7, Try.ntmps7
      go_wp2_with ((with_reducible (show wpList _ _ _ (⟨_, Op.load _ _, _, _, _, _⟩ :: _) _ _)); refine loadB_list rfl 61 _ rfl w.heap.size #[.int .i64 err, .int .i64 id, .int .i64 time, .string ⟨text.toArray⟩, .int .i64 re, .int .i64 im, .string ⟨version.toArray⟩, .int .i64 size, .int .i64 hre, .int .i64 him, .bool gone, .bool null, .string ⟨body.toArray⟩, .slice p1 names.length q1, .slice p2 lnames.length q2, .slice p3 lpre.length q3, .string ⟨next.toArray⟩, .bool more, .slice p4 lines.length q4, .string ⟨lobject.toArray⟩, .int .i64 lid, .bool lmore, .slice p5 ups.length q5, .slice p6 parts.length q6] _ _ rfl hst Try.underlying61 rfl hsz.out ?_)
      refine (cF.out _ (hR0.out.non gU)).mono ?_
      rintro en w1 ⟨b, rfl, hu⟩
      replace gU := gU.trans hu fun _ _ h => h
      clear hu cF
      cases b
      case false =>
        clear hst hR0 hB1
        go_wp2_with fail
        refine (cL.out _).mono ?_
        rintro en w2 ⟨rfl, hu⟩
        replace gU := gU.trans hu fun _ _ h => h
        clear hu
        go_wp2_with fail
        go_ret
        exact ⟨rfl, hsu.trans gU fun _ _ h => h⟩
      go_wp2_with ((with_reducible (show wpList _ _ _ (⟨_, Op.load _ _, _, _, _, _⟩ :: _) _ _)); refine loadB_list rfl 61 _ rfl w.heap.size #[.int .i64 err, .int .i64 id, .int .i64 time, .string ⟨text.toArray⟩, .int .i64 re, .int .i64 im, .string ⟨version.toArray⟩, .int .i64 size, .int .i64 hre, .int .i64 him, .bool gone, .bool null, .string ⟨body.toArray⟩, .slice p1 names.length q1, .slice p2 lnames.length q2, .slice p3 lpre.length q3, .string ⟨next.toArray⟩, .bool more, .slice p4 lines.length q4, .string ⟨lobject.toArray⟩, .int .i64 lid, .bool lmore, .slice p5 ups.length q5, .slice p6 parts.length q6] _ _ rfl (gU.heap hst fun h => h) Try.underlying61 rfl hsz.out ?_)
      refine (cA.out _ (hR0.out.non gU) (fun k hk => by have := hlt k hk; have := gU.size; omega)).mono ?_
      rintro en w2 ⟨bv, rfl, hbv, hu, hbk⟩
      replace gU := gU.trans hu fun _ _ h => h
      clear hu cA hbk
      obtain ⟨va0, vc0, rfl⟩ := bytes_form hbv
      clear hbv hst
      go_wp2_with fail
      refine (cH1.out _ _ (hB1.out.non gU)).mono ?_
      rintro en w6 ⟨S2, rfl, hS2, hk2, hu⟩
      replace gU := gU.trans hu fun _ _ h => h
      clear hu cH1
      have hS2' := Lib.hid hS2
      have hz6 := gU.size
      obtain ⟨nu1, nu2, nu3, nu4, nu5, nu6⟩ := S2
      obtain ⟨hu1, hu2, hu3, hu4, hu5, hu6⟩ := hS2
      dsimp only at *
      obtain ⟨u1, v1, rfl, -⟩ := has1 hu1
      obtain ⟨u2, v2, rfl, -⟩ := has1 hu2
      obtain ⟨u3, v3, rfl, -⟩ := has1 hu3
      obtain ⟨u4, v4, rfl, -⟩ := has_rows (f := lnC) (m := 8) (fun _ => rfl) hu4
      obtain ⟨u5, v5, rfl, -⟩ := has_rows (f := upC) (m := 2) (fun _ => rfl) hu5
      obtain ⟨u6, v6, rfl, -⟩ := has_rows (f := ptC) (m := 6) (fun _ => rfl) hu6
      clear hu1 hu2 hu3 hu4 hu5 hu6
      have hbx := heap_alloc_new w6 (.cells #[.int .i64 0, .int .i64 0, .int .i64 0, .string ⟨#[]⟩, .int .i64 0, .int .i64 0, .string ⟨#[]⟩, .int .i64 0, .int .i64 0, .int .i64 0, .bool false, .bool false, .string ⟨#[]⟩, .slice none 0 0, .slice none 0 0, .slice none 0 0, .string ⟨#[]⟩, .bool false, .slice none 0 0, .string ⟨#[]⟩, .int .i64 0, .bool false, .slice none 0 0, .slice none 0 0] 61)
      have hsz2 : Hid ((Try.prog.info? 61).map (·.size) = some (#[.int .i64 errd, .int .i64 idd, .int .i64 timed, .string ⟨textd.toArray⟩, .int .i64 red, .int .i64 imd, .string ⟨versiond.toArray⟩, .int .i64 sized, .int .i64 hred, .int .i64 himd, .bool goned, .bool nulld, .string ⟨bodyd.toArray⟩, .slice u1 namesd.length v1, .slice u2 lnamesd.length v2, .slice u3 lpred.length v3, .string ⟨nextd.toArray⟩, .bool mored, .slice u4 linesd.length v4, .string ⟨lobjectd.toArray⟩, .int .i64 lidd, .bool lmored, .slice u5 upsd.length v5, .slice u6 partsd.length v6] : Array Value).size) := Lib.hid (by kernel_rfl)
      go_wp2_with ((with_reducible (show wpList _ _ _ (⟨_, Op.store _ _ _, _, _, _, _⟩ :: _) _ _)); refine storeB_list rfl 61 _ _ rfl w6.heap.size #[.int .i64 errd, .int .i64 idd, .int .i64 timed, .string ⟨textd.toArray⟩, .int .i64 red, .int .i64 imd, .string ⟨versiond.toArray⟩, .int .i64 sized, .int .i64 hred, .int .i64 himd, .bool goned, .bool nulld, .string ⟨bodyd.toArray⟩, .slice u1 namesd.length v1, .slice u2 lnamesd.length v2, .slice u3 lpred.length v3, .string ⟨nextd.toArray⟩, .bool mored, .slice u4 linesd.length v4, .string ⟨lobjectd.toArray⟩, .int .i64 lidd, .bool lmored, .slice u5 upsd.length v5, .slice u6 partsd.length v6] _ _ rfl rfl hbx rfl hsz2.out (by simp [Value.oneCell']) ?_)
      intro w7 hb7 hu7
      replace gU := (gU.then_alloc _).trans hu7 fun j hj h => by omega
      have hS7 := Lib.hid ((hS2'.out.non (Upd.alloc Non w6 (.cells #[.int .i64 0, .int .i64 0, .int .i64 0, .string ⟨#[]⟩, .int .i64 0, .int .i64 0, .string ⟨#[]⟩, .int .i64 0, .int .i64 0, .int .i64 0, .bool false, .bool false, .string ⟨#[]⟩, .slice none 0 0, .slice none 0 0, .slice none 0 0, .string ⟨#[]⟩, .bool false, .slice none 0 0, .string ⟨#[]⟩, .int .i64 0, .bool false, .slice none 0 0, .slice none 0 0] 61))).upd hu7 fun k hk e => by have := (hk2 k hk).2; omega)
      have hz7 := Nat.le_trans (Upd.alloc Non w6 (.cells #[.int .i64 0, .int .i64 0, .int .i64 0, .string ⟨#[]⟩, .int .i64 0, .int .i64 0, .string ⟨#[]⟩, .int .i64 0, .int .i64 0, .int .i64 0, .bool false, .bool false, .string ⟨#[]⟩, .slice none 0 0, .slice none 0 0, .slice none 0 0, .string ⟨#[]⟩, .bool false, .slice none 0 0, .string ⟨#[]⟩, .int .i64 0, .bool false, .slice none 0 0, .slice none 0 0] 61)).size hu7.size
      clear hu7 hbx hS2'
      go_wp2_with ((with_reducible (show wpList _ _ _ (⟨_, Op.load _ _, _, _, _, _⟩ :: _) _ _)); refine loadB_list rfl 61 _ rfl w6.heap.size #[.int .i64 errd, .int .i64 idd, .int .i64 timed, .string ⟨textd.toArray⟩, .int .i64 red, .int .i64 imd, .string ⟨versiond.toArray⟩, .int .i64 sized, .int .i64 hred, .int .i64 himd, .bool goned, .bool nulld, .string ⟨bodyd.toArray⟩, .slice u1 namesd.length v1, .slice u2 lnamesd.length v2, .slice u3 lpred.length v3, .string ⟨nextd.toArray⟩, .bool mored, .slice u4 linesd.length v4, .string ⟨lobjectd.toArray⟩, .int .i64 lidd, .bool lmored, .slice u5 upsd.length v5, .slice u6 partsd.length v6] _ _ rfl hb7 Try.underlying61 rfl hsz2.out ?_)
      refine (cA1.out _ w7 hS7.out (fun k hk => by have := (hk2 k hk).2; omega)).mono ?_
      rintro en w8 ⟨bv, rfl, hbv, hu, -⟩
      replace gU := gU.trans hu fun _ _ h => h
      have st1 := run_str (P := Try.prog) _ 32 9 5 Try.underlying32 Try.underlying5 Try.underlying9 _ _ hbv
      have st2 := run_str (P := Try.prog) _ 32 9 5 Try.underlying32 Try.underlying5 Try.underlying9 _ _ (hB1.out.non gU)
      obtain ⟨va, vc, rfl⟩ := bytes_form hbv
      clear hu hb7 hS7 hbv
      go_wp2_with fail
      refine (cL.out _).mono ?_
      rintro en w9 ⟨rfl, hu⟩
      replace gU := gU.trans hu fun _ _ h => h
      clear hu
      go_wp2_with fail
      go_ret
      exact ⟨rfl, hsu.trans gU fun _ _ h => h⟩
end Go.Proofs.Ytogekobpjjmnjaa
