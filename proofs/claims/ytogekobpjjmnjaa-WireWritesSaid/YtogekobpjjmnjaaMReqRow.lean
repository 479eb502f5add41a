/- A request that came in (printed by gen/mkreqrow.py). -/
import Derived.Test.YtogekobpjjmnjaaMLawKit
import Derived.Test.YtogekobpjjmnjaaMWrA
import Derived.Test.YtogekobpjjmnjaaMWrY
namespace Go.Proofs.Ytogekobpjjmnjaa
open Go.RowKit Go.Amb Go.ChangeShapes Go.WideShapes Go.ChangeAt
set_option linter.unusedVariables false
set_option maxRecDepth 100000
variable {H : Type} {enc : TypeId × Value → H}
theorem shape_lt {w : World} {b : Nat} {x : TypeId × Nat} (h : w.shape? b = some x) : b < w.heap.size := by
  unfold World.shape? at h
  cases hb : w.heap[b]? with
  | none => simp [hb] at h
  | some o => exact heap_lt hb
theorem slice_lt {W : World} {b0 : Nat} {t e : TypeId} {v : Value} (ht : Try.prog.underlying t = some (.slice e)) (h : Cell.okWide Try.prog W .any b0 t v) : ∀ k, At v k → k < W.heap.size := by
  intro k hk
  simp only [Cell.okWide, ht] at h
  cases v <;> try (simp [At, Value.ownBlock] at hk; done)
  rename_i a n c
  cases a with
  | none => simp [At, Value.ownBlock] at hk
  | some a =>
    simp only [Cell.ok, ht] at h
    obtain ⟨-, -, -, -, row, cells, hs, -⟩ := h
    have : a.block = k := by simpa [At, Value.ownBlock] using hk
    rw [← this]
    exact shape_lt hs
theorem row_i64 {W : World} {m : Nat} {r : List Value} {x : DataW H × List MemPlace} (hx : DataW.trod enc Try.prog W 0 (fun _ => true) true m 3 r = some x) : ∃ n : Int, r = [.int .i64 n] ∧ True := by
  obtain ⟨n, e, _, w⟩ := DataW.trod_int Try.underlying3 hx
  exact ⟨n, e, trivial⟩
theorem flat_one {α : Type} (f : α → Value) (l : List α) : (l.map fun n => [f n]).flatten = l.map f := by
  induction l with
  | nil => rfl
  | cons n l ih => rw [List.map_cons, List.flatten_cons, ih]; rfl
set_option maxHeartbeats 4000000 in
theorem open_req {W : World} {b0 : Nat} {v : Value} {d : DataW H} {ps : List MemPlace} (hval : Value.okWide Try.prog W .any b0 30 v) (hd : DataW.Trod enc Try.prog W 0 (fun _ => true) true 30 v d ps) :
    ∃ (q : Rq) (pv : Value), v = rqV q pv ∧ Ints W pv q.parts ∧ smallQ q ∧ idOk q ∧ ∀ k, At pv k → k < W.heap.size := by
  simp only [Value.okWide, Try.underlying30] at hval
  obtain ⟨cs, rfl, hcs, ts, hts, -, hcell⟩ := hval
  have hts2 : Try.prog.cellTypes Try.prog.depth 30 = some [22, 3, 9, 9, 9, 9, 9, 9, 23, 3, 3, 3, 3, 28] := by kernel_rfl
  obtain rfl : ts = [22, 3, 9, 9, 9, 9, 9, 9, 23, 3, 3, 3, 3, 28] := Option.some.inj (hts.symm.trans hts2)
  clear hts hts2
  obtain ⟨fuel, hf⟩ := hd
  have hlen : cs.toList.length = 14 := by
    rw [Array.length_toList, hcs]; kernel_rfl
  obtain ⟨c0, c1, c2, c3, c4, c5, c6, c7, c8, c9, c10, c11, c12, c13, hm⟩ : ∃ c0 c1 c2 c3 c4 c5 c6 c7 c8 c9 c10 c11 c12 c13, cs.toList = [c0, c1, c2, c3, c4, c5, c6, c7, c8, c9, c10, c11, c12, c13] := by
    match h : cs.toList, hlen with
    | [c0, c1, c2, c3, c4, c5, c6, c7, c8, c9, c10, c11, c12, c13], _ => exact ⟨c0, c1, c2, c3, c4, c5, c6, c7, c8, c9, c10, c11, c12, c13, rfl⟩
  obtain rfl : cs = #[c0, c1, c2, c3, c4, c5, c6, c7, c8, c9, c10, c11, c12, c13] := Array.ext' hm
  have hf : DataW.trod enc Try.prog W 0 (fun _ => true) true fuel 30 [c0, c1, c2, c3, c4, c5, c6, c7, c8, c9, c10, c11, c12, c13] = some (d, ps) := hf
  obtain ⟨xs, n, _, _, _, hl, hg⟩ := DataW.trod_struct Try.underlying30 hf
  obtain ⟨y_0, y_1, y_2, y_3, y_4, y_5, y_6, y_7, y_8, y_9, y_10, y_11, rfl⟩ : ∃ y_0 y_1 y_2 y_3 y_4 y_5 y_6 y_7 y_8 y_9 y_10 y_11, xs = [y_0, y_1, y_2, y_3, y_4, y_5, y_6, y_7, y_8, y_9, y_10, y_11] := by
    match xs, hl with
    | [a0, a1, a2, a3, a4, a5, a6, a7, a8, a9, a10, a11], _ => exact ⟨a0, a1, a2, a3, a4, a5, a6, a7, a8, a9, a10, a11, rfl⟩
  have g_0 : DataW.trod enc Try.prog W 0 (fun _ => true) true n 22 [c0] = some y_0 := by
    have h := hg 0 _ rfl
    have hk : Try.prog.cellsOf 22 = 1 := by kernel_rfl
    exact (congrArg (DataW.trod enc Try.prog W 0 (fun _ => true) true n 22) (show _ = ((([c0, c1, c2, c3, c4, c5, c6, c7, c8, c9, c10, c11, c12, c13] : List Value).drop 0).take (Try.prog.cellsOf 22)) by rw [hk]; rfl)).trans h
  have g_1 : DataW.trod enc Try.prog W 0 (fun _ => true) true n 3 [c1] = some y_1 := by
    have h := hg 1 _ rfl
    have hk : Try.prog.cellsOf 3 = 1 := by kernel_rfl
    exact (congrArg (DataW.trod enc Try.prog W 0 (fun _ => true) true n 3) (show _ = ((([c0, c1, c2, c3, c4, c5, c6, c7, c8, c9, c10, c11, c12, c13] : List Value).drop 1).take (Try.prog.cellsOf 3)) by rw [hk]; rfl)).trans h
  have g_2 : DataW.trod enc Try.prog W 0 (fun _ => true) true n 9 [c2] = some y_2 := by
    have h := hg 2 _ rfl
    have hk : Try.prog.cellsOf 9 = 1 := by kernel_rfl
    exact (congrArg (DataW.trod enc Try.prog W 0 (fun _ => true) true n 9) (show _ = ((([c0, c1, c2, c3, c4, c5, c6, c7, c8, c9, c10, c11, c12, c13] : List Value).drop 2).take (Try.prog.cellsOf 9)) by rw [hk]; rfl)).trans h
  have g_3 : DataW.trod enc Try.prog W 0 (fun _ => true) true n 9 [c3] = some y_3 := by
    have h := hg 3 _ rfl
    have hk : Try.prog.cellsOf 9 = 1 := by kernel_rfl
    exact (congrArg (DataW.trod enc Try.prog W 0 (fun _ => true) true n 9) (show _ = ((([c0, c1, c2, c3, c4, c5, c6, c7, c8, c9, c10, c11, c12, c13] : List Value).drop 3).take (Try.prog.cellsOf 9)) by rw [hk]; rfl)).trans h
  have g_4 : DataW.trod enc Try.prog W 0 (fun _ => true) true n 9 [c4] = some y_4 := by
    have h := hg 4 _ rfl
    have hk : Try.prog.cellsOf 9 = 1 := by kernel_rfl
    exact (congrArg (DataW.trod enc Try.prog W 0 (fun _ => true) true n 9) (show _ = ((([c0, c1, c2, c3, c4, c5, c6, c7, c8, c9, c10, c11, c12, c13] : List Value).drop 4).take (Try.prog.cellsOf 9)) by rw [hk]; rfl)).trans h
  have g_5 : DataW.trod enc Try.prog W 0 (fun _ => true) true n 9 [c5] = some y_5 := by
    have h := hg 5 _ rfl
    have hk : Try.prog.cellsOf 9 = 1 := by kernel_rfl
    exact (congrArg (DataW.trod enc Try.prog W 0 (fun _ => true) true n 9) (show _ = ((([c0, c1, c2, c3, c4, c5, c6, c7, c8, c9, c10, c11, c12, c13] : List Value).drop 5).take (Try.prog.cellsOf 9)) by rw [hk]; rfl)).trans h
  have g_6 : DataW.trod enc Try.prog W 0 (fun _ => true) true n 9 [c6] = some y_6 := by
    have h := hg 6 _ rfl
    have hk : Try.prog.cellsOf 9 = 1 := by kernel_rfl
    exact (congrArg (DataW.trod enc Try.prog W 0 (fun _ => true) true n 9) (show _ = ((([c0, c1, c2, c3, c4, c5, c6, c7, c8, c9, c10, c11, c12, c13] : List Value).drop 6).take (Try.prog.cellsOf 9)) by rw [hk]; rfl)).trans h
  have g_7 : DataW.trod enc Try.prog W 0 (fun _ => true) true n 9 [c7] = some y_7 := by
    have h := hg 7 _ rfl
    have hk : Try.prog.cellsOf 9 = 1 := by kernel_rfl
    exact (congrArg (DataW.trod enc Try.prog W 0 (fun _ => true) true n 9) (show _ = ((([c0, c1, c2, c3, c4, c5, c6, c7, c8, c9, c10, c11, c12, c13] : List Value).drop 7).take (Try.prog.cellsOf 9)) by rw [hk]; rfl)).trans h
  have g_8 : DataW.trod enc Try.prog W 0 (fun _ => true) true n 27 [c8, c9, c10] = some y_8 := by
    have h := hg 8 _ rfl
    have hk : Try.prog.cellsOf 27 = 3 := by kernel_rfl
    exact (congrArg (DataW.trod enc Try.prog W 0 (fun _ => true) true n 27) (show _ = ((([c0, c1, c2, c3, c4, c5, c6, c7, c8, c9, c10, c11, c12, c13] : List Value).drop 8).take (Try.prog.cellsOf 27)) by rw [hk]; rfl)).trans h
  obtain ⟨xs_8, n_8, _, _, _, hl_8, hg_8⟩ := DataW.trod_struct Try.underlying27 g_8
  obtain ⟨y_8_0, y_8_1, rfl⟩ : ∃ y_8_0 y_8_1, xs_8 = [y_8_0, y_8_1] := by
    match xs_8, hl_8 with
    | [a0, a1], _ => exact ⟨a0, a1, rfl⟩
  have g_8_0 : DataW.trod enc Try.prog W 0 (fun _ => true) true n_8 23 [c8] = some y_8_0 := by
    have h := hg_8 0 _ rfl
    have hk : Try.prog.cellsOf 23 = 1 := by kernel_rfl
    exact (congrArg (DataW.trod enc Try.prog W 0 (fun _ => true) true n_8 23) (show _ = ((([c8, c9, c10] : List Value).drop 0).take (Try.prog.cellsOf 23)) by rw [hk]; rfl)).trans h
  have g_8_1 : DataW.trod enc Try.prog W 0 (fun _ => true) true n_8 25 [c9, c10] = some y_8_1 := by
    have h := hg_8 1 _ rfl
    have hk : Try.prog.cellsOf 25 = 2 := by kernel_rfl
    exact (congrArg (DataW.trod enc Try.prog W 0 (fun _ => true) true n_8 25) (show _ = ((([c8, c9, c10] : List Value).drop 1).take (Try.prog.cellsOf 25)) by rw [hk]; rfl)).trans h
  obtain ⟨xs_8_1, n_8_1, _, _, _, hl_8_1, hg_8_1⟩ := DataW.trod_struct Try.underlying25 g_8_1
  obtain ⟨y_8_1_0, y_8_1_1, rfl⟩ : ∃ y_8_1_0 y_8_1_1, xs_8_1 = [y_8_1_0, y_8_1_1] := by
    match xs_8_1, hl_8_1 with
    | [a0, a1], _ => exact ⟨a0, a1, rfl⟩
  have g_8_1_0 : DataW.trod enc Try.prog W 0 (fun _ => true) true n_8_1 3 [c9] = some y_8_1_0 := by
    have h := hg_8_1 0 _ rfl
    have hk : Try.prog.cellsOf 3 = 1 := by kernel_rfl
    exact (congrArg (DataW.trod enc Try.prog W 0 (fun _ => true) true n_8_1 3) (show _ = ((([c9, c10] : List Value).drop 0).take (Try.prog.cellsOf 3)) by rw [hk]; rfl)).trans h
  have g_8_1_1 : DataW.trod enc Try.prog W 0 (fun _ => true) true n_8_1 3 [c10] = some y_8_1_1 := by
    have h := hg_8_1 1 _ rfl
    have hk : Try.prog.cellsOf 3 = 1 := by kernel_rfl
    exact (congrArg (DataW.trod enc Try.prog W 0 (fun _ => true) true n_8_1 3) (show _ = ((([c9, c10] : List Value).drop 1).take (Try.prog.cellsOf 3)) by rw [hk]; rfl)).trans h
  have g_9 : DataW.trod enc Try.prog W 0 (fun _ => true) true n 3 [c11] = some y_9 := by
    have h := hg 9 _ rfl
    have hk : Try.prog.cellsOf 3 = 1 := by kernel_rfl
    exact (congrArg (DataW.trod enc Try.prog W 0 (fun _ => true) true n 3) (show _ = ((([c0, c1, c2, c3, c4, c5, c6, c7, c8, c9, c10, c11, c12, c13] : List Value).drop 11).take (Try.prog.cellsOf 3)) by rw [hk]; rfl)).trans h
  have g_10 : DataW.trod enc Try.prog W 0 (fun _ => true) true n 3 [c12] = some y_10 := by
    have h := hg 10 _ rfl
    have hk : Try.prog.cellsOf 3 = 1 := by kernel_rfl
    exact (congrArg (DataW.trod enc Try.prog W 0 (fun _ => true) true n 3) (show _ = ((([c0, c1, c2, c3, c4, c5, c6, c7, c8, c9, c10, c11, c12, c13] : List Value).drop 12).take (Try.prog.cellsOf 3)) by rw [hk]; rfl)).trans h
  have g_11 : DataW.trod enc Try.prog W 0 (fun _ => true) true n 28 [c13] = some y_11 := by
    have h := hg 11 _ rfl
    have hk : Try.prog.cellsOf 28 = 1 := by kernel_rfl
    exact (congrArg (DataW.trod enc Try.prog W 0 (fun _ => true) true n 28) (show _ = ((([c0, c1, c2, c3, c4, c5, c6, c7, c8, c9, c10, c11, c12, c13] : List Value).drop 13).take (Try.prog.cellsOf 28)) by rw [hk]; rfl)).trans h
  obtain ⟨kind, e_, -, wkind⟩ := DataW.trod_int Try.underlying22 g_0
  obtain rfl : c0 = .int .i64 kind := by simpa using e_
  clear e_
  replace wkind := wf_bounds wkind
  obtain ⟨session, e_, -, wsession⟩ := DataW.trod_int Try.underlying3 g_1
  obtain rfl : c1 = .int .i64 session := by simpa using e_
  clear e_
  replace wsession := wf_bounds wsession
  obtain ⟨s_, e_, -, zbucket⟩ := DataW.trod_string Try.underlying9 g_2
  obtain ⟨bucket, l1_, l2_, l3_⟩ := bytes_of s_
  rw [l3_] at zbucket
  subst l1_
  obtain rfl : c2 = .string ⟨bucket.toArray⟩ := by simpa using e_
  clear e_ l2_ l3_
  obtain ⟨s_, e_, -, zobject⟩ := DataW.trod_string Try.underlying9 g_3
  obtain ⟨object, l1_, l2_, l3_⟩ := bytes_of s_
  rw [l3_] at zobject
  subst l1_
  obtain rfl : c3 = .string ⟨object.toArray⟩ := by simpa using e_
  clear e_ l2_ l3_
  obtain ⟨s_, e_, -, zversion⟩ := DataW.trod_string Try.underlying9 g_4
  obtain ⟨version, l1_, l2_, l3_⟩ := bytes_of s_
  rw [l3_] at zversion
  subst l1_
  obtain rfl : c4 = .string ⟨version.toArray⟩ := by simpa using e_
  clear e_ l2_ l3_
  obtain ⟨s_, e_, -, zpre⟩ := DataW.trod_string Try.underlying9 g_5
  obtain ⟨pre, l1_, l2_, l3_⟩ := bytes_of s_
  rw [l3_] at zpre
  subst l1_
  obtain rfl : c5 = .string ⟨pre.toArray⟩ := by simpa using e_
  clear e_ l2_ l3_
  obtain ⟨s_, e_, -, zdelim⟩ := DataW.trod_string Try.underlying9 g_6
  obtain ⟨delim, l1_, l2_, l3_⟩ := bytes_of s_
  rw [l3_] at zdelim
  subst l1_
  obtain rfl : c6 = .string ⟨delim.toArray⟩ := by simpa using e_
  clear e_ l2_ l3_
  obtain ⟨s_, e_, -, zbody⟩ := DataW.trod_string Try.underlying9 g_7
  obtain ⟨body, l1_, l2_, l3_⟩ := bytes_of s_
  rw [l3_] at zbody
  subst l1_
  obtain rfl : c7 = .string ⟨body.toArray⟩ := by simpa using e_
  clear e_ l2_ l3_
  obtain ⟨ck, e_, -, wck⟩ := DataW.trod_int Try.underlying23 g_8_0
  obtain rfl : c8 = .int .i64 ck := by simpa using e_
  clear e_
  replace wck := wf_bounds wck
  obtain ⟨re, e_, -, wre⟩ := DataW.trod_int Try.underlying3 g_8_1_0
  obtain rfl : c9 = .int .i64 re := by simpa using e_
  clear e_
  replace wre := wf_bounds wre
  obtain ⟨im, e_, -, wim⟩ := DataW.trod_int Try.underlying3 g_8_1_1
  obtain rfl : c10 = .int .i64 im := by simpa using e_
  clear e_
  replace wim := wf_bounds wim
  obtain ⟨id, e_, -, wid⟩ := DataW.trod_int Try.underlying3 g_9
  obtain rfl : c11 = .int .i64 id := by simpa using e_
  clear e_
  replace wid := wf_bounds wid
  obtain ⟨n, e_, -, wn⟩ := DataW.trod_int Try.underlying3 g_10
  obtain rfl : c12 = .int .i64 n := by simpa using e_
  clear e_
  replace wn := wf_bounds wn
  obtain ⟨rw_, hBparts, -, -, hr_⟩ := open_rows Try.underlying28 (by kernel_rfl) (by decide : 0 < 1) g_11
  obtain ⟨parts, rfl, qparts⟩ := rows_map rw_ fun r h => by obtain ⟨hr, m, x, hx⟩ := hr_ r h; exact row_i64 hx
  rw [List.length_map] at hBparts
  obtain ⟨u_, hu_, hc_⟩ := hcell 13 c13 rfl
  obtain rfl : 28 = u_ := by simpa using hu_
  rw [flat_one] at hBparts
  exact ⟨⟨kind, session, bucket, object, version, pre, delim, body, ck, re, im, id, n, parts⟩, c13, rfl, hBparts, ⟨zbucket, zobject, zversion, zpre, zdelim, zbody⟩, wid, slice_lt Try.underlying28 hc_⟩
end Go.Proofs.Ytogekobpjjmnjaa
