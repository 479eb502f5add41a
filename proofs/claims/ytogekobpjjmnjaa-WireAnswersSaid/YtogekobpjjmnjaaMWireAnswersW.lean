/- The walk over WireAnswers (printed by gen/mkwans.py). -/
import Derived.Test.YtogekobpjjmnjaaMWbC
import Derived.Test.YtogekobpjjmnjaaMWbD
import Derived.Test.YtogekobpjjmnjaaMWbE
import Derived.Test.YtogekobpjjmnjaaMWaJ
namespace Go.Proofs.Ytogekobpjjmnjaa
open Go.RowKit Go.Amb
set_option linter.unusedVariables false
set_option linter.unusedSimpArgs false
set_option maxRecDepth 100000
attribute [local go_sem ↓] Go.wp_at_zero Go.wp_at_succ
theorem answerT_eq (r : Rs) : answerT r = #[.string ⟨(bytesA r).toArray⟩, .int .i64 (ckA r)] := by
  unfold answerT bytesA ckA
  split <;> rfl
set_option maxHeartbeats 16000000 in
theorem lWireAnswers (r0 : Rs) (S : Sl) (w : World) (hR : RsAt w r0 S) (hs : smallA r0) (hlt : SlLt S w.heap.size) (hid : ids r0) : Calls Try.prog 5 #[rsV r0 S] w (Ret (.bool true) w) := by
  have cL := Lib.hid lives24
  have cF := Lib.hid (fun w' (hu : Upd Non w w') => few24 r0 S w' (hR.non hu))
  have cA := Lib.hid (fun w' (hu : Upd Non w w') => wAnswer2 r0 S w' (hR.non hu) hs (fun k hk => Nat.lt_of_lt_of_le (hlt k hk) hu.size) hid)
  have cB := Lib.hid (fun w' (hu : Upd Non w w') => rAnswer r0 S w' (hR.non hu) hs hid)
  rw [answerT_eq] at cB
  generalize bytesA r0 = bs at *
  generalize ckA r0 = ckq at *
  clear hs hid hlt
  obtain ⟨np1, np2, np3, np4, np5, np6⟩ := S
  obtain ⟨hp1, hp2, hp3, hp4, hp5, hp6⟩ := hR
  dsimp only at *
  obtain ⟨p1, q1, rfl, -⟩ := has1 hp1
  obtain ⟨p2, q2, rfl, -⟩ := has1 hp2
  obtain ⟨p3, q3, rfl, -⟩ := has1 hp3
  obtain ⟨p4, q4, rfl, -⟩ := has_rows (f := lnC) (m := 8) (fun _ => rfl) hp4
  obtain ⟨p5, q5, rfl, -⟩ := has_rows (f := upC) (m := 2) (fun _ => rfl) hp5
  obtain ⟨p6, q6, rfl, -⟩ := has_rows (f := ptC) (m := 6) (fun _ => rfl) hp6
  clear hp1 hp2 hp3 hp4 hp5 hp6
  unfold rsV rsC at *
  obtain ⟨err, id, time, text, re, im, version, ⟨size, hre, him, gone, null⟩, body, names, lnames, lpre, next, more, lines, lobject, lid, lmore, ups, parts⟩ := r0
  dsimp only at *
  have hst := heap_alloc_new w (.cells #[.int .i64 err, .int .i64 id, .int .i64 time, .string ⟨text.toArray⟩, .int .i64 re, .int .i64 im, .string ⟨version.toArray⟩, .int .i64 size, .int .i64 hre, .int .i64 him, .bool gone, .bool null, .string ⟨body.toArray⟩, .slice p1 names.length q1, .slice p2 lnames.length q2, .slice p3 lpre.length q3, .string ⟨next.toArray⟩, .bool more, .slice p4 lines.length q4, .string ⟨lobject.toArray⟩, .int .i64 lid, .bool lmore, .slice p5 ups.length q5, .slice p6 parts.length q6] 61)
  have hsu : Upd Non w (w.alloc (.cells #[.int .i64 err, .int .i64 id, .int .i64 time, .string ⟨text.toArray⟩, .int .i64 re, .int .i64 im, .string ⟨version.toArray⟩, .int .i64 size, .int .i64 hre, .int .i64 him, .bool gone, .bool null, .string ⟨body.toArray⟩, .slice p1 names.length q1, .slice p2 lnames.length q2, .slice p3 lpre.length q3, .string ⟨next.toArray⟩, .bool more, .slice p4 lines.length q4, .string ⟨lobject.toArray⟩, .int .i64 lid, .bool lmore, .slice p5 ups.length q5, .slice p6 parts.length q6] 61)) := Upd.alloc _ _ _
  have hsz : Hid ((Try.prog.info? 61).map (·.size) = some (#[.int .i64 err, .int .i64 id, .int .i64 time, .string ⟨text.toArray⟩, .int .i64 re, .int .i64 im, .string ⟨version.toArray⟩, .int .i64 size, .int .i64 hre, .int .i64 him, .bool gone, .bool null, .string ⟨body.toArray⟩, .slice p1 names.length q1, .slice p2 lnames.length q2, .slice p3 lpre.length q3, .string ⟨next.toArray⟩, .bool more, .slice p4 lines.length q4, .string ⟨lobject.toArray⟩, .int .i64 lid, .bool lmore, .slice p5 ups.length q5, .slice p6 parts.length q6] : Array Value).size) := Lib.hid (by kernel_rfl)
  go_enter Try.func5, Try.ntmps5
  go_wp2_with ((with_reducible (show wpList _ _ _ (⟨_, Op.load _ _, _, _, _, _⟩ :: _) _ _)); refine loadB_list rfl 61 _ rfl w.heap.size #[.int .i64 err, .int .i64 id, .int .i64 time, .string ⟨text.toArray⟩, .int .i64 re, .int .i64 im, .string ⟨version.toArray⟩, .int .i64 size, .int .i64 hre, .int .i64 him, .bool gone, .bool null, .string ⟨body.toArray⟩, .slice p1 names.length q1, .slice p2 lnames.length q2, .slice p3 lpre.length q3, .string ⟨next.toArray⟩, .bool more, .slice p4 lines.length q4, .string ⟨lobject.toArray⟩, .int .i64 lid, .bool lmore, .slice p5 ups.length q5, .slice p6 parts.length q6] _ _ rfl hst Try.underlying61 rfl hsz.out ?_)
  refine (cF.out _ hsu).mono ?_
  rintro en w1 ⟨b, rfl, hu⟩
  have gb := hu.heap hst fun h => h
  have gU := hsu.trans hu fun _ _ h => h
  clear hu hst hsu cF
  cases b
  case false =>
    clear gb cA cB
    go_wp2_with fail
    refine (cL.out _).mono ?_
    rintro en w2 ⟨rfl, hu⟩
    have hU := gU.trans hu fun _ _ h => h
    go_wp2_with fail
    go_ret
    exact ⟨rfl, hU⟩
  go_wp2_with ((with_reducible (show wpList _ _ _ (⟨_, Op.load _ _, _, _, _, _⟩ :: _) _ _)); refine loadB_list rfl 61 _ rfl w.heap.size #[.int .i64 err, .int .i64 id, .int .i64 time, .string ⟨text.toArray⟩, .int .i64 re, .int .i64 im, .string ⟨version.toArray⟩, .int .i64 size, .int .i64 hre, .int .i64 him, .bool gone, .bool null, .string ⟨body.toArray⟩, .slice p1 names.length q1, .slice p2 lnames.length q2, .slice p3 lpre.length q3, .string ⟨next.toArray⟩, .bool more, .slice p4 lines.length q4, .string ⟨lobject.toArray⟩, .int .i64 lid, .bool lmore, .slice p5 ups.length q5, .slice p6 parts.length q6] _ _ rfl gb Try.underlying61 rfl hsz.out ?_)
  refine (cA.out _ gU).mono ?_
  rintro en w2 ⟨bv, rfl, hbv, hu, hbk⟩
  replace gb := hu.heap gb fun h => h
  have gU2 := gU.trans hu fun _ _ h => h
  clear hu gU cA hbk
  go_wp2_with ((with_reducible (show wpList _ _ _ (⟨_, Op.load _ _, _, _, _, _⟩ :: _) _ _)); refine loadB_list rfl 61 _ rfl w.heap.size #[.int .i64 err, .int .i64 id, .int .i64 time, .string ⟨text.toArray⟩, .int .i64 re, .int .i64 im, .string ⟨version.toArray⟩, .int .i64 size, .int .i64 hre, .int .i64 him, .bool gone, .bool null, .string ⟨body.toArray⟩, .slice p1 names.length q1, .slice p2 lnames.length q2, .slice p3 lpre.length q3, .string ⟨next.toArray⟩, .bool more, .slice p4 lines.length q4, .string ⟨lobject.toArray⟩, .int .i64 lid, .bool lmore, .slice p5 ups.length q5, .slice p6 parts.length q6] _ _ rfl gb Try.underlying61 rfl hsz.out ?_)
  refine (cB.out _ gU2).mono ?_
  rintro en w3 ⟨rfl, hu⟩
  replace hbv := hbv.non hu
  have gU3 := gU2.trans hu fun _ _ h => h
  have hstr := run_str (P := Try.prog) _ 32 9 5 Try.underlying32 Try.underlying5 Try.underlying9 _ _ hbv
  obtain ⟨va, vc, rfl⟩ := bytes_form hbv
  clear hu gU2 cB gb hbv
  go_wp2_with fail
  refine (cL.out _).mono ?_
  rintro en w4 ⟨rfl, hu⟩
  have gU4 := gU3.trans hu fun _ _ h => h
  clear hu gU3 hstr
  go_wp2_with fail
  go_ret
  exact ⟨rfl, gU4⟩
end Go.Proofs.Ytogekobpjjmnjaa
