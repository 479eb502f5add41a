/- The law's few (printed by gen/mkwans.py). -/
import Derived.Test.YtogekobpjjmnjaaMWaD
namespace Go.Proofs.Ytogekobpjjmnjaa
open Go.RowKit Go.Amb
set_option linter.unusedVariables false
set_option linter.unusedSimpArgs false
set_option maxRecDepth 100000
attribute [local go_sem ↓] Go.wp_at_zero Go.wp_at_succ
def AnyB (w : World) : Ending → World → Prop := fun en w' => ∃ b, en = .returned (.bool b) ∧ Upd Non w w'
set_option maxHeartbeats 4000000 in
theorem few24 (r0 : Rs) (S : Sl) (w : World) (hR : RsAt w r0 S) : Calls Try.prog 18 #[rsV r0 S] w (AnyB w) := by
  obtain ⟨np1, np2, np3, np4, np5, np6⟩ := S
  obtain ⟨hp1, hp2, hp3, hp4, hp5, hp6⟩ := hR
  dsimp only at *
  obtain ⟨p1, q1, rfl, -⟩ := has1 hp1
  obtain ⟨p2, q2, rfl, -⟩ := has1 hp2
  obtain ⟨p3, q3, rfl, -⟩ := has1 hp3
  obtain ⟨p4, q4, rfl, -⟩ := has_rows (f := lnC) (m := 8) (fun _ => rfl) hp4
  obtain ⟨p5, q5, rfl, -⟩ := has_rows (f := upC) (m := 2) (fun _ => rfl) hp5
  obtain ⟨p6, q6, rfl, -⟩ := has_rows (f := ptC) (m := 6) (fun _ => rfl) hp6
  unfold rsV rsC
  obtain ⟨err, id, time, text, re, im, version, ⟨size, hre, him, gone, null⟩, body, names, lnames, lpre, next, more, lines, lobject, lid, lmore, ups, parts⟩ := r0
  dsimp only
  clear hp1 hp2 hp3 hp4 hp5 hp6
  generalize names.length = m1 at *
  generalize lnames.length = m2 at *
  generalize lpre.length = m3 at *
  generalize lines.length = m4 at *
  generalize ups.length = m5 at *
  generalize parts.length = m6 at *
  have hst := heap_alloc_new w (.cells #[.int .i64 err, .int .i64 id, .int .i64 time, .string ⟨text.toArray⟩, .int .i64 re, .int .i64 im, .string ⟨version.toArray⟩, .int .i64 size, .int .i64 hre, .int .i64 him, .bool gone, .bool null, .string ⟨body.toArray⟩, .slice p1 m1 q1, .slice p2 m2 q2, .slice p3 m3 q3, .string ⟨next.toArray⟩, .bool more, .slice p4 m4 q4, .string ⟨lobject.toArray⟩, .int .i64 lid, .bool lmore, .slice p5 m5 q5, .slice p6 m6 q6] 61)
  have hsu : Upd Non w (w.alloc (.cells #[.int .i64 err, .int .i64 id, .int .i64 time, .string ⟨text.toArray⟩, .int .i64 re, .int .i64 im, .string ⟨version.toArray⟩, .int .i64 size, .int .i64 hre, .int .i64 him, .bool gone, .bool null, .string ⟨body.toArray⟩, .slice p1 m1 q1, .slice p2 m2 q2, .slice p3 m3 q3, .string ⟨next.toArray⟩, .bool more, .slice p4 m4 q4, .string ⟨lobject.toArray⟩, .int .i64 lid, .bool lmore, .slice p5 m5 q5, .slice p6 m6 q6] 61)) := Upd.alloc _ _ _
  have y1 : (w.alloc (.cells #[.int .i64 err, .int .i64 id, .int .i64 time, .string ⟨text.toArray⟩, .int .i64 re, .int .i64 im, .string ⟨version.toArray⟩, .int .i64 size, .int .i64 hre, .int .i64 him, .bool gone, .bool null, .string ⟨body.toArray⟩, .slice p1 m1 q1, .slice p2 m2 q2, .slice p3 m3 q3, .string ⟨next.toArray⟩, .bool more, .slice p4 m4 q4, .string ⟨lobject.toArray⟩, .int .i64 lid, .bool lmore, .slice p5 m5 q5, .slice p6 m6 q6] 61)).cell? ⟨w.heap.size, 13, none⟩ = some (.slice p1 m1 q1) := (cells_of hst).1 13
  have y2 : (w.alloc (.cells #[.int .i64 err, .int .i64 id, .int .i64 time, .string ⟨text.toArray⟩, .int .i64 re, .int .i64 im, .string ⟨version.toArray⟩, .int .i64 size, .int .i64 hre, .int .i64 him, .bool gone, .bool null, .string ⟨body.toArray⟩, .slice p1 m1 q1, .slice p2 m2 q2, .slice p3 m3 q3, .string ⟨next.toArray⟩, .bool more, .slice p4 m4 q4, .string ⟨lobject.toArray⟩, .int .i64 lid, .bool lmore, .slice p5 m5 q5, .slice p6 m6 q6] 61)).cell? ⟨w.heap.size, 14, none⟩ = some (.slice p2 m2 q2) := (cells_of hst).1 14
  have y3 : (w.alloc (.cells #[.int .i64 err, .int .i64 id, .int .i64 time, .string ⟨text.toArray⟩, .int .i64 re, .int .i64 im, .string ⟨version.toArray⟩, .int .i64 size, .int .i64 hre, .int .i64 him, .bool gone, .bool null, .string ⟨body.toArray⟩, .slice p1 m1 q1, .slice p2 m2 q2, .slice p3 m3 q3, .string ⟨next.toArray⟩, .bool more, .slice p4 m4 q4, .string ⟨lobject.toArray⟩, .int .i64 lid, .bool lmore, .slice p5 m5 q5, .slice p6 m6 q6] 61)).cell? ⟨w.heap.size, 15, none⟩ = some (.slice p3 m3 q3) := (cells_of hst).1 15
  have y4 : (w.alloc (.cells #[.int .i64 err, .int .i64 id, .int .i64 time, .string ⟨text.toArray⟩, .int .i64 re, .int .i64 im, .string ⟨version.toArray⟩, .int .i64 size, .int .i64 hre, .int .i64 him, .bool gone, .bool null, .string ⟨body.toArray⟩, .slice p1 m1 q1, .slice p2 m2 q2, .slice p3 m3 q3, .string ⟨next.toArray⟩, .bool more, .slice p4 m4 q4, .string ⟨lobject.toArray⟩, .int .i64 lid, .bool lmore, .slice p5 m5 q5, .slice p6 m6 q6] 61)).cell? ⟨w.heap.size, 18, none⟩ = some (.slice p4 m4 q4) := (cells_of hst).1 18
  have y5 : (w.alloc (.cells #[.int .i64 err, .int .i64 id, .int .i64 time, .string ⟨text.toArray⟩, .int .i64 re, .int .i64 im, .string ⟨version.toArray⟩, .int .i64 size, .int .i64 hre, .int .i64 him, .bool gone, .bool null, .string ⟨body.toArray⟩, .slice p1 m1 q1, .slice p2 m2 q2, .slice p3 m3 q3, .string ⟨next.toArray⟩, .bool more, .slice p4 m4 q4, .string ⟨lobject.toArray⟩, .int .i64 lid, .bool lmore, .slice p5 m5 q5, .slice p6 m6 q6] 61)).cell? ⟨w.heap.size, 22, none⟩ = some (.slice p5 m5 q5) := (cells_of hst).1 22
  have y6 : (w.alloc (.cells #[.int .i64 err, .int .i64 id, .int .i64 time, .string ⟨text.toArray⟩, .int .i64 re, .int .i64 im, .string ⟨version.toArray⟩, .int .i64 size, .int .i64 hre, .int .i64 him, .bool gone, .bool null, .string ⟨body.toArray⟩, .slice p1 m1 q1, .slice p2 m2 q2, .slice p3 m3 q3, .string ⟨next.toArray⟩, .bool more, .slice p4 m4 q4, .string ⟨lobject.toArray⟩, .int .i64 lid, .bool lmore, .slice p5 m5 q5, .slice p6 m6 q6] 61)).cell? ⟨w.heap.size, 23, none⟩ = some (.slice p6 m6 q6) := (cells_of hst).1 23
  clear hst
  by_cases g1 : (m1 : Int) ≤ 300
  case neg =>
    go_enter Try.func18, Try.ntmps18
    go_wp2_with fail
    go_ret
    exact ⟨_, rfl, hsu⟩
  by_cases g2 : (m2 : Int) ≤ 300
  case neg =>
    go_enter Try.func18, Try.ntmps18
    go_wp2_with fail
    go_ret
    exact ⟨_, rfl, hsu⟩
  by_cases g3 : (m3 : Int) ≤ 300
  case neg =>
    go_enter Try.func18, Try.ntmps18
    go_wp2_with fail
    go_ret
    exact ⟨_, rfl, hsu⟩
  by_cases g4 : (m4 : Int) ≤ 300
  case neg =>
    go_enter Try.func18, Try.ntmps18
    go_wp2_with fail
    go_ret
    exact ⟨_, rfl, hsu⟩
  by_cases g5 : (m5 : Int) ≤ 300
  case neg =>
    go_enter Try.func18, Try.ntmps18
    go_wp2_with fail
    go_ret
    exact ⟨_, rfl, hsu⟩
  by_cases g6 : (m6 : Int) ≤ 300
  case neg =>
    go_enter Try.func18, Try.ntmps18
    go_wp2_with fail
    go_ret
    exact ⟨_, rfl, hsu⟩
  go_enter Try.func18, Try.ntmps18
  go_wp2_with fail
  go_ret
  exact ⟨_, rfl, hsu⟩
end Go.Proofs.Ytogekobpjjmnjaa
