/- The reference: Answer (printed by gen/mkwaj.py). -/
import Derived.Test.YtogekobpjjmnjaaMWaI
namespace Go.Proofs.Ytogekobpjjmnjaa
open Go.RowKit Go.Amb
set_option linter.unusedVariables false
set_option linter.unusedSimpArgs false
set_option maxRecDepth 100000
attribute [local go_sem ↓] Go.wp_at_zero Go.wp_at_succ
def answerT (r : Rs) : Array Value := if rightA r then #[.string ⟨(putA r).toArray⟩, .int .i64 0] else #[.string ⟨#[]⟩, .int .i64 4]
set_option maxHeartbeats 4000000 in
theorem rAnswer (r0 : Rs) (S : Sl) (w : World) (hR : RsAt w r0 S) (hs : smallA r0) (hid : ids r0) : Calls Try.prog 20 #[rsV r0 S] w (Ret (.tuple (answerT r0)) w) := by
  have hM := Lib.hid (fun w' (hu : Upd Non w w') => rRightA r0 S w' (hR.non hu) hs)
  have hP := Lib.hid (fun w' (hu : Upd Non w w') (h : rightA r0) => rPutAnswer r0 S w' (hR.non hu) h hid)
  obtain ⟨n1, n2, n3, n4, n5, n6⟩ := S
  obtain ⟨hR1, hR2, hR3, hR4, hR5, hR6⟩ := hR
  dsimp only at *
  obtain ⟨p1, q1, rfl, -⟩ := has1 hR1
  obtain ⟨p2, q2, rfl, -⟩ := has1 hR2
  obtain ⟨p3, q3, rfl, -⟩ := has1 hR3
  obtain ⟨p4, q4, rfl, -⟩ := has_rows (f := lnC) (m := 8) (fun _ => rfl) hR4
  obtain ⟨p5, q5, rfl, -⟩ := has_rows (f := upC) (m := 2) (fun _ => rfl) hR5
  obtain ⟨p6, q6, rfl, -⟩ := has_rows (f := ptC) (m := 6) (fun _ => rfl) hR6
  clear hR1 hR2 hR3 hR4 hR5 hR6
  have hst := heap_alloc_new w (.cells (rsC r0 ⟨.slice p1 r0.names.length q1, .slice p2 r0.lnames.length q2, .slice p3 r0.lpre.length q3, .slice p4 r0.lines.length q4, .slice p5 r0.ups.length q5, .slice p6 r0.parts.length q6⟩) 61)
  have hsu : Upd Non w (w.alloc (.cells (rsC r0 ⟨.slice p1 r0.names.length q1, .slice p2 r0.lnames.length q2, .slice p3 r0.lpre.length q3, .slice p4 r0.lines.length q4, .slice p5 r0.ups.length q5, .slice p6 r0.parts.length q6⟩) 61)) := Upd.alloc _ _ _
  have hsz : Hid ((Try.prog.info? 61).map (·.size) = some (rsC r0 ⟨.slice p1 r0.names.length q1, .slice p2 r0.lnames.length q2, .slice p3 r0.lpre.length q3, .slice p4 r0.lines.length q4, .slice p5 r0.ups.length q5, .slice p6 r0.parts.length q6⟩).size) := Lib.hid (by kernel_rfl)
  by_cases hr : rightA r0
  · have hbt : answerT r0 = #[.string ⟨(putA r0).toArray⟩, .int .i64 0] := if_pos hr
    rw [hbt]
    rw [decide_eq_true hr] at hM
    replace hP := Lib.hid (fun w' hu => hP.out w' hu hr)
    generalize putA r0 = pq at *
    clear hbt hr
    unfold rsV at hM hP ⊢
    obtain ⟨err, id, time, text, re, im, version, ⟨size, hre, him, gone, null⟩, body, names, lnames, lpre, next, more, lines, lobject, lid, lmore, ups, parts⟩ := r0
    unfold rsC at *
    dsimp only at *
    clear hs
    go_enter Try.func20, Try.ntmps20
    go_wp2_with ((with_reducible (show wpList _ _ _ (⟨_, Op.load _ _, _, _, _, _⟩ :: _) _ _)); refine loadB_list rfl 61 _ rfl w.heap.size #[.int .i64 err, .int .i64 id, .int .i64 time, .string ⟨text.toArray⟩, .int .i64 re, .int .i64 im, .string ⟨version.toArray⟩, .int .i64 size, .int .i64 hre, .int .i64 him, .bool gone, .bool null, .string ⟨body.toArray⟩, .slice p1 names.length q1, .slice p2 lnames.length q2, .slice p3 lpre.length q3, .string ⟨next.toArray⟩, .bool more, .slice p4 lines.length q4, .string ⟨lobject.toArray⟩, .int .i64 lid, .bool lmore, .slice p5 ups.length q5, .slice p6 parts.length q6] _ _ rfl hst Try.underlying61 rfl hsz.out ?_)
    go_wp2_with fail
    refine (hM.out _ hsu).mono ?_
    rintro en w1 ⟨rfl, hu⟩
    have hA := hu.heap hst fun h => h
    have hU := hsu.trans hu fun _ _ h => h
    clear hu hst hsu
    go_wp2_with ((with_reducible (show wpList _ _ _ (⟨_, Op.load _ _, _, _, _, _⟩ :: _) _ _)); refine loadB_list rfl 61 _ rfl w.heap.size #[.int .i64 err, .int .i64 id, .int .i64 time, .string ⟨text.toArray⟩, .int .i64 re, .int .i64 im, .string ⟨version.toArray⟩, .int .i64 size, .int .i64 hre, .int .i64 him, .bool gone, .bool null, .string ⟨body.toArray⟩, .slice p1 names.length q1, .slice p2 lnames.length q2, .slice p3 lpre.length q3, .string ⟨next.toArray⟩, .bool more, .slice p4 lines.length q4, .string ⟨lobject.toArray⟩, .int .i64 lid, .bool lmore, .slice p5 ups.length q5, .slice p6 parts.length q6] _ _ rfl hA Try.underlying61 rfl hsz.out ?_)
    go_wp2_with fail
    refine (hP.out _ hU).mono ?_
    rintro en w2 ⟨rfl, hu⟩
    have hU2 := hU.trans hu fun _ _ h => h
    clear hu hA
    go_wp2_with fail
    go_ret2
    exact ⟨rfl, hU2⟩
  · have hbt : answerT r0 = #[.string ⟨#[]⟩, .int .i64 4] := if_neg hr
    rw [hbt]
    rw [decide_eq_false hr] at hM
    clear hbt hP
    replace hr := Lib.hid hr
    unfold rsV at hM ⊢
    obtain ⟨err, id, time, text, re, im, version, ⟨size, hre, him, gone, null⟩, body, names, lnames, lpre, next, more, lines, lobject, lid, lmore, ups, parts⟩ := r0
    unfold rsC at *
    dsimp only at *
    clear hs
    go_enter Try.func20, Try.ntmps20
    go_wp2_with ((with_reducible (show wpList _ _ _ (⟨_, Op.load _ _, _, _, _, _⟩ :: _) _ _)); refine loadB_list rfl 61 _ rfl w.heap.size #[.int .i64 err, .int .i64 id, .int .i64 time, .string ⟨text.toArray⟩, .int .i64 re, .int .i64 im, .string ⟨version.toArray⟩, .int .i64 size, .int .i64 hre, .int .i64 him, .bool gone, .bool null, .string ⟨body.toArray⟩, .slice p1 names.length q1, .slice p2 lnames.length q2, .slice p3 lpre.length q3, .string ⟨next.toArray⟩, .bool more, .slice p4 lines.length q4, .string ⟨lobject.toArray⟩, .int .i64 lid, .bool lmore, .slice p5 ups.length q5, .slice p6 parts.length q6] _ _ rfl hst Try.underlying61 rfl hsz.out ?_)
    go_wp2_with fail
    refine (hM.out _ hsu).mono ?_
    rintro en w1 ⟨rfl, hu⟩
    have hU := hsu.trans hu fun _ _ h => h
    clear hu hst hsu
    go_wp2_with fail
    go_ret2
    exact ⟨rfl, hU⟩
end Go.Proofs.Ytogekobpjjmnjaa
