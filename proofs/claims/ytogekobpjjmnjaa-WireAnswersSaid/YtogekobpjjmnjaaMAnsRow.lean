/- A response that came in (printed by gen/mkreqrow.py). -/
import Derived.Test.YtogekobpjjmnjaaMReqRow
import Derived.Test.YtogekobpjjmnjaaMWaF
namespace Go.Proofs.Ytogekobpjjmnjaa
open Go.RowKit Go.Amb Go.ChangeShapes Go.WideShapes Go.ChangeAt
set_option linter.unusedVariables false
set_option maxRecDepth 100000
variable {H : Type} {enc : TypeId × Value → H}
theorem row_txt {W : World} {m : Nat} {r : List Value} {x : DataW H × List MemPlace} (hx : DataW.trod enc Try.prog W 0 (fun _ => true) true m 9 r = some x) : ∃ s : List UInt8, r = [.string ⟨s.toArray⟩] ∧ s.length ≤ maxLen := by
  obtain ⟨s, e, -, z⟩ := DataW.trod_string Try.underlying9 hx
  obtain ⟨l, l1, l2, l3⟩ := bytes_of s
  rw [l3] at z
  subst l1
  exact ⟨l, e, z⟩
theorem row_ln {W : World} {m : Nat} {r : List Value} {x : DataW H × List MemPlace} (hr : r.length = 8) (hf : DataW.trod enc Try.prog W 0 (fun _ => true) true m 129 r = some x) : ∃ y : Ln, r = lnC y ∧ (y.object.length ≤ maxLen ∧ i64 y.id) := by
  obtain ⟨c0, c1, c2, c3, c4, c5, c6, c7, rfl⟩ : ∃ c0 c1 c2 c3 c4 c5 c6 c7, r = [c0, c1, c2, c3, c4, c5, c6, c7] := by
    match r, hr with
    | [c0, c1, c2, c3, c4, c5, c6, c7], _ => exact ⟨c0, c1, c2, c3, c4, c5, c6, c7, rfl⟩
  obtain ⟨xs, n, _, _, _, hl, hg⟩ := DataW.trod_struct Try.underlying129 hf
  obtain ⟨y_0, y_1, y_2, y_3, rfl⟩ : ∃ y_0 y_1 y_2 y_3, xs = [y_0, y_1, y_2, y_3] := by
    match xs, hl with
    | [a0, a1, a2, a3], _ => exact ⟨a0, a1, a2, a3, rfl⟩
  have g_0 : DataW.trod enc Try.prog W 0 (fun _ => true) true n 9 [c0] = some y_0 := by
    have h := hg 0 _ rfl
    have hk : Try.prog.cellsOf 9 = 1 := by kernel_rfl
    exact (congrArg (DataW.trod enc Try.prog W 0 (fun _ => true) true n 9) (show _ = ((([c0, c1, c2, c3, c4, c5, c6, c7] : List Value).drop 0).take (Try.prog.cellsOf 9)) by rw [hk]; rfl)).trans h
  have g_1 : DataW.trod enc Try.prog W 0 (fun _ => true) true n 3 [c1] = some y_1 := by
    have h := hg 1 _ rfl
    have hk : Try.prog.cellsOf 3 = 1 := by kernel_rfl
    exact (congrArg (DataW.trod enc Try.prog W 0 (fun _ => true) true n 3) (show _ = ((([c0, c1, c2, c3, c4, c5, c6, c7] : List Value).drop 1).take (Try.prog.cellsOf 3)) by rw [hk]; rfl)).trans h
  have g_2 : DataW.trod enc Try.prog W 0 (fun _ => true) true n 4 [c2] = some y_2 := by
    have h := hg 2 _ rfl
    have hk : Try.prog.cellsOf 4 = 1 := by kernel_rfl
    exact (congrArg (DataW.trod enc Try.prog W 0 (fun _ => true) true n 4) (show _ = ((([c0, c1, c2, c3, c4, c5, c6, c7] : List Value).drop 2).take (Try.prog.cellsOf 4)) by rw [hk]; rfl)).trans h
  have g_3 : DataW.trod enc Try.prog W 0 (fun _ => true) true n 49 [c3, c4, c5, c6, c7] = some y_3 := by
    have h := hg 3 _ rfl
    have hk : Try.prog.cellsOf 49 = 5 := by kernel_rfl
    exact (congrArg (DataW.trod enc Try.prog W 0 (fun _ => true) true n 49) (show _ = ((([c0, c1, c2, c3, c4, c5, c6, c7] : List Value).drop 3).take (Try.prog.cellsOf 49)) by rw [hk]; rfl)).trans h
  obtain ⟨xs_3, n_3, _, _, _, hl_3, hg_3⟩ := DataW.trod_struct Try.underlying49 g_3
  obtain ⟨y_3_0, y_3_1, y_3_2, y_3_3, rfl⟩ : ∃ y_3_0 y_3_1 y_3_2 y_3_3, xs_3 = [y_3_0, y_3_1, y_3_2, y_3_3] := by
    match xs_3, hl_3 with
    | [a0, a1, a2, a3], _ => exact ⟨a0, a1, a2, a3, rfl⟩
  have g_3_0 : DataW.trod enc Try.prog W 0 (fun _ => true) true n_3 3 [c3] = some y_3_0 := by
    have h := hg_3 0 _ rfl
    have hk : Try.prog.cellsOf 3 = 1 := by kernel_rfl
    exact (congrArg (DataW.trod enc Try.prog W 0 (fun _ => true) true n_3 3) (show _ = ((([c3, c4, c5, c6, c7] : List Value).drop 0).take (Try.prog.cellsOf 3)) by rw [hk]; rfl)).trans h
  have g_3_1 : DataW.trod enc Try.prog W 0 (fun _ => true) true n_3 25 [c4, c5] = some y_3_1 := by
    have h := hg_3 1 _ rfl
    have hk : Try.prog.cellsOf 25 = 2 := by kernel_rfl
    exact (congrArg (DataW.trod enc Try.prog W 0 (fun _ => true) true n_3 25) (show _ = ((([c3, c4, c5, c6, c7] : List Value).drop 1).take (Try.prog.cellsOf 25)) by rw [hk]; rfl)).trans h
  obtain ⟨xs_3_1, n_3_1, _, _, _, hl_3_1, hg_3_1⟩ := DataW.trod_struct Try.underlying25 g_3_1
  obtain ⟨y_3_1_0, y_3_1_1, rfl⟩ : ∃ y_3_1_0 y_3_1_1, xs_3_1 = [y_3_1_0, y_3_1_1] := by
    match xs_3_1, hl_3_1 with
    | [a0, a1], _ => exact ⟨a0, a1, rfl⟩
  have g_3_1_0 : DataW.trod enc Try.prog W 0 (fun _ => true) true n_3_1 3 [c4] = some y_3_1_0 := by
    have h := hg_3_1 0 _ rfl
    have hk : Try.prog.cellsOf 3 = 1 := by kernel_rfl
    exact (congrArg (DataW.trod enc Try.prog W 0 (fun _ => true) true n_3_1 3) (show _ = ((([c4, c5] : List Value).drop 0).take (Try.prog.cellsOf 3)) by rw [hk]; rfl)).trans h
  have g_3_1_1 : DataW.trod enc Try.prog W 0 (fun _ => true) true n_3_1 3 [c5] = some y_3_1_1 := by
    have h := hg_3_1 1 _ rfl
    have hk : Try.prog.cellsOf 3 = 1 := by kernel_rfl
    exact (congrArg (DataW.trod enc Try.prog W 0 (fun _ => true) true n_3_1 3) (show _ = ((([c4, c5] : List Value).drop 1).take (Try.prog.cellsOf 3)) by rw [hk]; rfl)).trans h
  have g_3_2 : DataW.trod enc Try.prog W 0 (fun _ => true) true n_3 4 [c6] = some y_3_2 := by
    have h := hg_3 2 _ rfl
    have hk : Try.prog.cellsOf 4 = 1 := by kernel_rfl
    exact (congrArg (DataW.trod enc Try.prog W 0 (fun _ => true) true n_3 4) (show _ = ((([c3, c4, c5, c6, c7] : List Value).drop 3).take (Try.prog.cellsOf 4)) by rw [hk]; rfl)).trans h
  have g_3_3 : DataW.trod enc Try.prog W 0 (fun _ => true) true n_3 4 [c7] = some y_3_3 := by
    have h := hg_3 3 _ rfl
    have hk : Try.prog.cellsOf 4 = 1 := by kernel_rfl
    exact (congrArg (DataW.trod enc Try.prog W 0 (fun _ => true) true n_3 4) (show _ = ((([c3, c4, c5, c6, c7] : List Value).drop 4).take (Try.prog.cellsOf 4)) by rw [hk]; rfl)).trans h
  obtain ⟨s_, e_, -, zobject⟩ := DataW.trod_string Try.underlying9 g_0
  obtain ⟨object, l1_, l2_, l3_⟩ := bytes_of s_
  rw [l3_] at zobject
  subst l1_
  obtain rfl : c0 = .string ⟨object.toArray⟩ := by simpa using e_
  clear e_ l2_ l3_
  obtain ⟨id, e_, -, wid⟩ := DataW.trod_int Try.underlying3 g_1
  obtain rfl : c1 = .int .i64 id := by simpa using e_
  clear e_
  replace wid := wf_bounds wid
  obtain ⟨lat, e_, -⟩ := DataW.trod_bool Try.underlying4 g_2
  obtain rfl : c2 = .bool lat := by simpa using e_
  clear e_
  obtain ⟨size, e_, -, wsize⟩ := DataW.trod_int Try.underlying3 g_3_0
  obtain rfl : c3 = .int .i64 size := by simpa using e_
  clear e_
  replace wsize := wf_bounds wsize
  obtain ⟨re, e_, -, wre⟩ := DataW.trod_int Try.underlying3 g_3_1_0
  obtain rfl : c4 = .int .i64 re := by simpa using e_
  clear e_
  replace wre := wf_bounds wre
  obtain ⟨im, e_, -, wim⟩ := DataW.trod_int Try.underlying3 g_3_1_1
  obtain rfl : c5 = .int .i64 im := by simpa using e_
  clear e_
  replace wim := wf_bounds wim
  obtain ⟨gone, e_, -⟩ := DataW.trod_bool Try.underlying4 g_3_2
  obtain rfl : c6 = .bool gone := by simpa using e_
  clear e_
  obtain ⟨null, e_, -⟩ := DataW.trod_bool Try.underlying4 g_3_3
  obtain rfl : c7 = .bool null := by simpa using e_
  clear e_
  exact ⟨⟨object, id, lat, ⟨size, re, im, gone, null⟩⟩, rfl, zobject, wid⟩
theorem row_up {W : World} {m : Nat} {r : List Value} {x : DataW H × List MemPlace} (hr : r.length = 2) (hf : DataW.trod enc Try.prog W 0 (fun _ => true) true m 95 r = some x) : ∃ y : Up, r = upC y ∧ (y.object.length ≤ maxLen ∧ i64 y.id) := by
  obtain ⟨c0, c1, rfl⟩ : ∃ c0 c1, r = [c0, c1] := by
    match r, hr with
    | [c0, c1], _ => exact ⟨c0, c1, rfl⟩
  obtain ⟨xs, n, _, _, _, hl, hg⟩ := DataW.trod_struct Try.underlying95 hf
  obtain ⟨y_0, y_1, rfl⟩ : ∃ y_0 y_1, xs = [y_0, y_1] := by
    match xs, hl with
    | [a0, a1], _ => exact ⟨a0, a1, rfl⟩
  have g_0 : DataW.trod enc Try.prog W 0 (fun _ => true) true n 9 [c0] = some y_0 := by
    have h := hg 0 _ rfl
    have hk : Try.prog.cellsOf 9 = 1 := by kernel_rfl
    exact (congrArg (DataW.trod enc Try.prog W 0 (fun _ => true) true n 9) (show _ = ((([c0, c1] : List Value).drop 0).take (Try.prog.cellsOf 9)) by rw [hk]; rfl)).trans h
  have g_1 : DataW.trod enc Try.prog W 0 (fun _ => true) true n 3 [c1] = some y_1 := by
    have h := hg 1 _ rfl
    have hk : Try.prog.cellsOf 3 = 1 := by kernel_rfl
    exact (congrArg (DataW.trod enc Try.prog W 0 (fun _ => true) true n 3) (show _ = ((([c0, c1] : List Value).drop 1).take (Try.prog.cellsOf 3)) by rw [hk]; rfl)).trans h
  obtain ⟨s_, e_, -, zobject⟩ := DataW.trod_string Try.underlying9 g_0
  obtain ⟨object, l1_, l2_, l3_⟩ := bytes_of s_
  rw [l3_] at zobject
  subst l1_
  obtain rfl : c0 = .string ⟨object.toArray⟩ := by simpa using e_
  clear e_ l2_ l3_
  obtain ⟨id, e_, -, wid⟩ := DataW.trod_int Try.underlying3 g_1
  obtain rfl : c1 = .int .i64 id := by simpa using e_
  clear e_
  replace wid := wf_bounds wid
  exact ⟨⟨object, id⟩, rfl, zobject, wid⟩
theorem row_pt {W : World} {m : Nat} {r : List Value} {x : DataW H × List MemPlace} (hr : r.length = 6) (hf : DataW.trod enc Try.prog W 0 (fun _ => true) true m 97 r = some x) : ∃ y : Pt, r = ptC y ∧ True := by
  obtain ⟨c0, c1, c2, c3, c4, c5, rfl⟩ : ∃ c0 c1 c2 c3 c4 c5, r = [c0, c1, c2, c3, c4, c5] := by
    match r, hr with
    | [c0, c1, c2, c3, c4, c5], _ => exact ⟨c0, c1, c2, c3, c4, c5, rfl⟩
  obtain ⟨xs, n, _, _, _, hl, hg⟩ := DataW.trod_struct Try.underlying97 hf
  obtain ⟨y_0, y_1, rfl⟩ : ∃ y_0 y_1, xs = [y_0, y_1] := by
    match xs, hl with
    | [a0, a1], _ => exact ⟨a0, a1, rfl⟩
  have g_0 : DataW.trod enc Try.prog W 0 (fun _ => true) true n 3 [c0] = some y_0 := by
    have h := hg 0 _ rfl
    have hk : Try.prog.cellsOf 3 = 1 := by kernel_rfl
    exact (congrArg (DataW.trod enc Try.prog W 0 (fun _ => true) true n 3) (show _ = ((([c0, c1, c2, c3, c4, c5] : List Value).drop 0).take (Try.prog.cellsOf 3)) by rw [hk]; rfl)).trans h
  have g_1 : DataW.trod enc Try.prog W 0 (fun _ => true) true n 49 [c1, c2, c3, c4, c5] = some y_1 := by
    have h := hg 1 _ rfl
    have hk : Try.prog.cellsOf 49 = 5 := by kernel_rfl
    exact (congrArg (DataW.trod enc Try.prog W 0 (fun _ => true) true n 49) (show _ = ((([c0, c1, c2, c3, c4, c5] : List Value).drop 1).take (Try.prog.cellsOf 49)) by rw [hk]; rfl)).trans h
  obtain ⟨xs_1, n_1, _, _, _, hl_1, hg_1⟩ := DataW.trod_struct Try.underlying49 g_1
  obtain ⟨y_1_0, y_1_1, y_1_2, y_1_3, rfl⟩ : ∃ y_1_0 y_1_1 y_1_2 y_1_3, xs_1 = [y_1_0, y_1_1, y_1_2, y_1_3] := by
    match xs_1, hl_1 with
    | [a0, a1, a2, a3], _ => exact ⟨a0, a1, a2, a3, rfl⟩
  have g_1_0 : DataW.trod enc Try.prog W 0 (fun _ => true) true n_1 3 [c1] = some y_1_0 := by
    have h := hg_1 0 _ rfl
    have hk : Try.prog.cellsOf 3 = 1 := by kernel_rfl
    exact (congrArg (DataW.trod enc Try.prog W 0 (fun _ => true) true n_1 3) (show _ = ((([c1, c2, c3, c4, c5] : List Value).drop 0).take (Try.prog.cellsOf 3)) by rw [hk]; rfl)).trans h
  have g_1_1 : DataW.trod enc Try.prog W 0 (fun _ => true) true n_1 25 [c2, c3] = some y_1_1 := by
    have h := hg_1 1 _ rfl
    have hk : Try.prog.cellsOf 25 = 2 := by kernel_rfl
    exact (congrArg (DataW.trod enc Try.prog W 0 (fun _ => true) true n_1 25) (show _ = ((([c1, c2, c3, c4, c5] : List Value).drop 1).take (Try.prog.cellsOf 25)) by rw [hk]; rfl)).trans h
  obtain ⟨xs_1_1, n_1_1, _, _, _, hl_1_1, hg_1_1⟩ := DataW.trod_struct Try.underlying25 g_1_1
  obtain ⟨y_1_1_0, y_1_1_1, rfl⟩ : ∃ y_1_1_0 y_1_1_1, xs_1_1 = [y_1_1_0, y_1_1_1] := by
    match xs_1_1, hl_1_1 with
    | [a0, a1], _ => exact ⟨a0, a1, rfl⟩
  have g_1_1_0 : DataW.trod enc Try.prog W 0 (fun _ => true) true n_1_1 3 [c2] = some y_1_1_0 := by
    have h := hg_1_1 0 _ rfl
    have hk : Try.prog.cellsOf 3 = 1 := by kernel_rfl
    exact (congrArg (DataW.trod enc Try.prog W 0 (fun _ => true) true n_1_1 3) (show _ = ((([c2, c3] : List Value).drop 0).take (Try.prog.cellsOf 3)) by rw [hk]; rfl)).trans h
  have g_1_1_1 : DataW.trod enc Try.prog W 0 (fun _ => true) true n_1_1 3 [c3] = some y_1_1_1 := by
    have h := hg_1_1 1 _ rfl
    have hk : Try.prog.cellsOf 3 = 1 := by kernel_rfl
    exact (congrArg (DataW.trod enc Try.prog W 0 (fun _ => true) true n_1_1 3) (show _ = ((([c2, c3] : List Value).drop 1).take (Try.prog.cellsOf 3)) by rw [hk]; rfl)).trans h
  have g_1_2 : DataW.trod enc Try.prog W 0 (fun _ => true) true n_1 4 [c4] = some y_1_2 := by
    have h := hg_1 2 _ rfl
    have hk : Try.prog.cellsOf 4 = 1 := by kernel_rfl
    exact (congrArg (DataW.trod enc Try.prog W 0 (fun _ => true) true n_1 4) (show _ = ((([c1, c2, c3, c4, c5] : List Value).drop 3).take (Try.prog.cellsOf 4)) by rw [hk]; rfl)).trans h
  have g_1_3 : DataW.trod enc Try.prog W 0 (fun _ => true) true n_1 4 [c5] = some y_1_3 := by
    have h := hg_1 3 _ rfl
    have hk : Try.prog.cellsOf 4 = 1 := by kernel_rfl
    exact (congrArg (DataW.trod enc Try.prog W 0 (fun _ => true) true n_1 4) (show _ = ((([c1, c2, c3, c4, c5] : List Value).drop 4).take (Try.prog.cellsOf 4)) by rw [hk]; rfl)).trans h
  obtain ⟨n, e_, -, wn⟩ := DataW.trod_int Try.underlying3 g_0
  obtain rfl : c0 = .int .i64 n := by simpa using e_
  clear e_
  replace wn := wf_bounds wn
  obtain ⟨size, e_, -, wsize⟩ := DataW.trod_int Try.underlying3 g_1_0
  obtain rfl : c1 = .int .i64 size := by simpa using e_
  clear e_
  replace wsize := wf_bounds wsize
  obtain ⟨re, e_, -, wre⟩ := DataW.trod_int Try.underlying3 g_1_1_0
  obtain rfl : c2 = .int .i64 re := by simpa using e_
  clear e_
  replace wre := wf_bounds wre
  obtain ⟨im, e_, -, wim⟩ := DataW.trod_int Try.underlying3 g_1_1_1
  obtain rfl : c3 = .int .i64 im := by simpa using e_
  clear e_
  replace wim := wf_bounds wim
  obtain ⟨gone, e_, -⟩ := DataW.trod_bool Try.underlying4 g_1_2
  obtain rfl : c4 = .bool gone := by simpa using e_
  clear e_
  obtain ⟨null, e_, -⟩ := DataW.trod_bool Try.underlying4 g_1_3
  obtain rfl : c5 = .bool null := by simpa using e_
  clear e_
  exact ⟨⟨n, ⟨size, re, im, gone, null⟩⟩, rfl, trivial⟩
set_option maxHeartbeats 4000000 in
theorem open_ans {W : World} {b0 : Nat} {v : Value} {d : DataW H} {ps : List MemPlace} (hval : Value.okWide Try.prog W .any b0 61 v) (hd : DataW.Trod enc Try.prog W 0 (fun _ => true) true 61 v d ps) :
    ∃ (r : Rs) (S : Sl), v = rsV r S ∧ RsAt W r S ∧ smallA r ∧ ids r ∧ SlLt S W.heap.size := by
  simp only [Value.okWide, Try.underlying61] at hval
  obtain ⟨cs, rfl, hcs, ts, hts, -, hcell⟩ := hval
  have hts2 : Try.prog.cellTypes Try.prog.depth 61 = some [33, 3, 3, 9, 3, 3, 9, 3, 3, 3, 4, 4, 9, 52, 52, 52, 9, 4, 55, 9, 3, 4, 58, 59] := by kernel_rfl
  obtain rfl : ts = [33, 3, 3, 9, 3, 3, 9, 3, 3, 3, 4, 4, 9, 52, 52, 52, 9, 4, 55, 9, 3, 4, 58, 59] := Option.some.inj (hts.symm.trans hts2)
  clear hts hts2
  obtain ⟨fuel, hf⟩ := hd
  have hlen : cs.toList.length = 24 := by
    rw [Array.length_toList, hcs]; kernel_rfl
  obtain ⟨c0, c1, c2, c3, c4, c5, c6, c7, c8, c9, c10, c11, c12, c13, c14, c15, c16, c17, c18, c19, c20, c21, c22, c23, hm⟩ : ∃ c0 c1 c2 c3 c4 c5 c6 c7 c8 c9 c10 c11 c12 c13 c14 c15 c16 c17 c18 c19 c20 c21 c22 c23, cs.toList = [c0, c1, c2, c3, c4, c5, c6, c7, c8, c9, c10, c11, c12, c13, c14, c15, c16, c17, c18, c19, c20, c21, c22, c23] := by
    match h : cs.toList, hlen with
    | [c0, c1, c2, c3, c4, c5, c6, c7, c8, c9, c10, c11, c12, c13, c14, c15, c16, c17, c18, c19, c20, c21, c22, c23], _ => exact ⟨c0, c1, c2, c3, c4, c5, c6, c7, c8, c9, c10, c11, c12, c13, c14, c15, c16, c17, c18, c19, c20, c21, c22, c23, rfl⟩
  obtain rfl : cs = #[c0, c1, c2, c3, c4, c5, c6, c7, c8, c9, c10, c11, c12, c13, c14, c15, c16, c17, c18, c19, c20, c21, c22, c23] := Array.ext' hm
  have hf : DataW.trod enc Try.prog W 0 (fun _ => true) true fuel 61 [c0, c1, c2, c3, c4, c5, c6, c7, c8, c9, c10, c11, c12, c13, c14, c15, c16, c17, c18, c19, c20, c21, c22, c23] = some (d, ps) := hf
  obtain ⟨xs, n, _, _, _, hl, hg⟩ := DataW.trod_struct Try.underlying61 hf
  obtain ⟨y_0, y_1, y_2, y_3, y_4, y_5, y_6, y_7, y_8, y_9, y_10, rfl⟩ : ∃ y_0 y_1 y_2 y_3 y_4 y_5 y_6 y_7 y_8 y_9 y_10, xs = [y_0, y_1, y_2, y_3, y_4, y_5, y_6, y_7, y_8, y_9, y_10] := by
    match xs, hl with
    | [a0, a1, a2, a3, a4, a5, a6, a7, a8, a9, a10], _ => exact ⟨a0, a1, a2, a3, a4, a5, a6, a7, a8, a9, a10, rfl⟩
  have g_0 : DataW.trod enc Try.prog W 0 (fun _ => true) true n 33 [c0] = some y_0 := by
    have h := hg 0 _ rfl
    have hk : Try.prog.cellsOf 33 = 1 := by kernel_rfl
    exact (congrArg (DataW.trod enc Try.prog W 0 (fun _ => true) true n 33) (show _ = ((([c0, c1, c2, c3, c4, c5, c6, c7, c8, c9, c10, c11, c12, c13, c14, c15, c16, c17, c18, c19, c20, c21, c22, c23] : List Value).drop 0).take (Try.prog.cellsOf 33)) by rw [hk]; rfl)).trans h
  have g_1 : DataW.trod enc Try.prog W 0 (fun _ => true) true n 3 [c1] = some y_1 := by
    have h := hg 1 _ rfl
    have hk : Try.prog.cellsOf 3 = 1 := by kernel_rfl
    exact (congrArg (DataW.trod enc Try.prog W 0 (fun _ => true) true n 3) (show _ = ((([c0, c1, c2, c3, c4, c5, c6, c7, c8, c9, c10, c11, c12, c13, c14, c15, c16, c17, c18, c19, c20, c21, c22, c23] : List Value).drop 1).take (Try.prog.cellsOf 3)) by rw [hk]; rfl)).trans h
  have g_2 : DataW.trod enc Try.prog W 0 (fun _ => true) true n 3 [c2] = some y_2 := by
    have h := hg 2 _ rfl
    have hk : Try.prog.cellsOf 3 = 1 := by kernel_rfl
    exact (congrArg (DataW.trod enc Try.prog W 0 (fun _ => true) true n 3) (show _ = ((([c0, c1, c2, c3, c4, c5, c6, c7, c8, c9, c10, c11, c12, c13, c14, c15, c16, c17, c18, c19, c20, c21, c22, c23] : List Value).drop 2).take (Try.prog.cellsOf 3)) by rw [hk]; rfl)).trans h
  have g_3 : DataW.trod enc Try.prog W 0 (fun _ => true) true n 9 [c3] = some y_3 := by
    have h := hg 3 _ rfl
    have hk : Try.prog.cellsOf 9 = 1 := by kernel_rfl
    exact (congrArg (DataW.trod enc Try.prog W 0 (fun _ => true) true n 9) (show _ = ((([c0, c1, c2, c3, c4, c5, c6, c7, c8, c9, c10, c11, c12, c13, c14, c15, c16, c17, c18, c19, c20, c21, c22, c23] : List Value).drop 3).take (Try.prog.cellsOf 9)) by rw [hk]; rfl)).trans h
  have g_4 : DataW.trod enc Try.prog W 0 (fun _ => true) true n 25 [c4, c5] = some y_4 := by
    have h := hg 4 _ rfl
    have hk : Try.prog.cellsOf 25 = 2 := by kernel_rfl
    exact (congrArg (DataW.trod enc Try.prog W 0 (fun _ => true) true n 25) (show _ = ((([c0, c1, c2, c3, c4, c5, c6, c7, c8, c9, c10, c11, c12, c13, c14, c15, c16, c17, c18, c19, c20, c21, c22, c23] : List Value).drop 4).take (Try.prog.cellsOf 25)) by rw [hk]; rfl)).trans h
  obtain ⟨xs_4, n_4, _, _, _, hl_4, hg_4⟩ := DataW.trod_struct Try.underlying25 g_4
  obtain ⟨y_4_0, y_4_1, rfl⟩ : ∃ y_4_0 y_4_1, xs_4 = [y_4_0, y_4_1] := by
    match xs_4, hl_4 with
    | [a0, a1], _ => exact ⟨a0, a1, rfl⟩
  have g_4_0 : DataW.trod enc Try.prog W 0 (fun _ => true) true n_4 3 [c4] = some y_4_0 := by
    have h := hg_4 0 _ rfl
    have hk : Try.prog.cellsOf 3 = 1 := by kernel_rfl
    exact (congrArg (DataW.trod enc Try.prog W 0 (fun _ => true) true n_4 3) (show _ = ((([c4, c5] : List Value).drop 0).take (Try.prog.cellsOf 3)) by rw [hk]; rfl)).trans h
  have g_4_1 : DataW.trod enc Try.prog W 0 (fun _ => true) true n_4 3 [c5] = some y_4_1 := by
    have h := hg_4 1 _ rfl
    have hk : Try.prog.cellsOf 3 = 1 := by kernel_rfl
    exact (congrArg (DataW.trod enc Try.prog W 0 (fun _ => true) true n_4 3) (show _ = ((([c4, c5] : List Value).drop 1).take (Try.prog.cellsOf 3)) by rw [hk]; rfl)).trans h
  have g_5 : DataW.trod enc Try.prog W 0 (fun _ => true) true n 51 [c6, c7, c8, c9, c10, c11, c12] = some y_5 := by
    have h := hg 5 _ rfl
    have hk : Try.prog.cellsOf 51 = 7 := by kernel_rfl
    exact (congrArg (DataW.trod enc Try.prog W 0 (fun _ => true) true n 51) (show _ = ((([c0, c1, c2, c3, c4, c5, c6, c7, c8, c9, c10, c11, c12, c13, c14, c15, c16, c17, c18, c19, c20, c21, c22, c23] : List Value).drop 6).take (Try.prog.cellsOf 51)) by rw [hk]; rfl)).trans h
  obtain ⟨xs_5, n_5, _, _, _, hl_5, hg_5⟩ := DataW.trod_struct Try.underlying51 g_5
  obtain ⟨y_5_0, y_5_1, y_5_2, rfl⟩ : ∃ y_5_0 y_5_1 y_5_2, xs_5 = [y_5_0, y_5_1, y_5_2] := by
    match xs_5, hl_5 with
    | [a0, a1, a2], _ => exact ⟨a0, a1, a2, rfl⟩
  have g_5_0 : DataW.trod enc Try.prog W 0 (fun _ => true) true n_5 9 [c6] = some y_5_0 := by
    have h := hg_5 0 _ rfl
    have hk : Try.prog.cellsOf 9 = 1 := by kernel_rfl
    exact (congrArg (DataW.trod enc Try.prog W 0 (fun _ => true) true n_5 9) (show _ = ((([c6, c7, c8, c9, c10, c11, c12] : List Value).drop 0).take (Try.prog.cellsOf 9)) by rw [hk]; rfl)).trans h
  have g_5_1 : DataW.trod enc Try.prog W 0 (fun _ => true) true n_5 49 [c7, c8, c9, c10, c11] = some y_5_1 := by
    have h := hg_5 1 _ rfl
    have hk : Try.prog.cellsOf 49 = 5 := by kernel_rfl
    exact (congrArg (DataW.trod enc Try.prog W 0 (fun _ => true) true n_5 49) (show _ = ((([c6, c7, c8, c9, c10, c11, c12] : List Value).drop 1).take (Try.prog.cellsOf 49)) by rw [hk]; rfl)).trans h
  obtain ⟨xs_5_1, n_5_1, _, _, _, hl_5_1, hg_5_1⟩ := DataW.trod_struct Try.underlying49 g_5_1
  obtain ⟨y_5_1_0, y_5_1_1, y_5_1_2, y_5_1_3, rfl⟩ : ∃ y_5_1_0 y_5_1_1 y_5_1_2 y_5_1_3, xs_5_1 = [y_5_1_0, y_5_1_1, y_5_1_2, y_5_1_3] := by
    match xs_5_1, hl_5_1 with
    | [a0, a1, a2, a3], _ => exact ⟨a0, a1, a2, a3, rfl⟩
  have g_5_1_0 : DataW.trod enc Try.prog W 0 (fun _ => true) true n_5_1 3 [c7] = some y_5_1_0 := by
    have h := hg_5_1 0 _ rfl
    have hk : Try.prog.cellsOf 3 = 1 := by kernel_rfl
    exact (congrArg (DataW.trod enc Try.prog W 0 (fun _ => true) true n_5_1 3) (show _ = ((([c7, c8, c9, c10, c11] : List Value).drop 0).take (Try.prog.cellsOf 3)) by rw [hk]; rfl)).trans h
  have g_5_1_1 : DataW.trod enc Try.prog W 0 (fun _ => true) true n_5_1 25 [c8, c9] = some y_5_1_1 := by
    have h := hg_5_1 1 _ rfl
    have hk : Try.prog.cellsOf 25 = 2 := by kernel_rfl
    exact (congrArg (DataW.trod enc Try.prog W 0 (fun _ => true) true n_5_1 25) (show _ = ((([c7, c8, c9, c10, c11] : List Value).drop 1).take (Try.prog.cellsOf 25)) by rw [hk]; rfl)).trans h
  obtain ⟨xs_5_1_1, n_5_1_1, _, _, _, hl_5_1_1, hg_5_1_1⟩ := DataW.trod_struct Try.underlying25 g_5_1_1
  obtain ⟨y_5_1_1_0, y_5_1_1_1, rfl⟩ : ∃ y_5_1_1_0 y_5_1_1_1, xs_5_1_1 = [y_5_1_1_0, y_5_1_1_1] := by
    match xs_5_1_1, hl_5_1_1 with
    | [a0, a1], _ => exact ⟨a0, a1, rfl⟩
  have g_5_1_1_0 : DataW.trod enc Try.prog W 0 (fun _ => true) true n_5_1_1 3 [c8] = some y_5_1_1_0 := by
    have h := hg_5_1_1 0 _ rfl
    have hk : Try.prog.cellsOf 3 = 1 := by kernel_rfl
    exact (congrArg (DataW.trod enc Try.prog W 0 (fun _ => true) true n_5_1_1 3) (show _ = ((([c8, c9] : List Value).drop 0).take (Try.prog.cellsOf 3)) by rw [hk]; rfl)).trans h
  have g_5_1_1_1 : DataW.trod enc Try.prog W 0 (fun _ => true) true n_5_1_1 3 [c9] = some y_5_1_1_1 := by
    have h := hg_5_1_1 1 _ rfl
    have hk : Try.prog.cellsOf 3 = 1 := by kernel_rfl
    exact (congrArg (DataW.trod enc Try.prog W 0 (fun _ => true) true n_5_1_1 3) (show _ = ((([c8, c9] : List Value).drop 1).take (Try.prog.cellsOf 3)) by rw [hk]; rfl)).trans h
  have g_5_1_2 : DataW.trod enc Try.prog W 0 (fun _ => true) true n_5_1 4 [c10] = some y_5_1_2 := by
    have h := hg_5_1 2 _ rfl
    have hk : Try.prog.cellsOf 4 = 1 := by kernel_rfl
    exact (congrArg (DataW.trod enc Try.prog W 0 (fun _ => true) true n_5_1 4) (show _ = ((([c7, c8, c9, c10, c11] : List Value).drop 3).take (Try.prog.cellsOf 4)) by rw [hk]; rfl)).trans h
  have g_5_1_3 : DataW.trod enc Try.prog W 0 (fun _ => true) true n_5_1 4 [c11] = some y_5_1_3 := by
    have h := hg_5_1 3 _ rfl
    have hk : Try.prog.cellsOf 4 = 1 := by kernel_rfl
    exact (congrArg (DataW.trod enc Try.prog W 0 (fun _ => true) true n_5_1 4) (show _ = ((([c7, c8, c9, c10, c11] : List Value).drop 4).take (Try.prog.cellsOf 4)) by rw [hk]; rfl)).trans h
  have g_5_2 : DataW.trod enc Try.prog W 0 (fun _ => true) true n_5 9 [c12] = some y_5_2 := by
    have h := hg_5 2 _ rfl
    have hk : Try.prog.cellsOf 9 = 1 := by kernel_rfl
    exact (congrArg (DataW.trod enc Try.prog W 0 (fun _ => true) true n_5 9) (show _ = ((([c6, c7, c8, c9, c10, c11, c12] : List Value).drop 6).take (Try.prog.cellsOf 9)) by rw [hk]; rfl)).trans h
  have g_6 : DataW.trod enc Try.prog W 0 (fun _ => true) true n 52 [c13] = some y_6 := by
    have h := hg 6 _ rfl
    have hk : Try.prog.cellsOf 52 = 1 := by kernel_rfl
    exact (congrArg (DataW.trod enc Try.prog W 0 (fun _ => true) true n 52) (show _ = ((([c0, c1, c2, c3, c4, c5, c6, c7, c8, c9, c10, c11, c12, c13, c14, c15, c16, c17, c18, c19, c20, c21, c22, c23] : List Value).drop 13).take (Try.prog.cellsOf 52)) by rw [hk]; rfl)).trans h
  have g_7 : DataW.trod enc Try.prog W 0 (fun _ => true) true n 54 [c14, c15, c16, c17] = some y_7 := by
    have h := hg 7 _ rfl
    have hk : Try.prog.cellsOf 54 = 4 := by kernel_rfl
    exact (congrArg (DataW.trod enc Try.prog W 0 (fun _ => true) true n 54) (show _ = ((([c0, c1, c2, c3, c4, c5, c6, c7, c8, c9, c10, c11, c12, c13, c14, c15, c16, c17, c18, c19, c20, c21, c22, c23] : List Value).drop 14).take (Try.prog.cellsOf 54)) by rw [hk]; rfl)).trans h
  obtain ⟨xs_7, n_7, _, _, _, hl_7, hg_7⟩ := DataW.trod_struct Try.underlying54 g_7
  obtain ⟨y_7_0, y_7_1, y_7_2, y_7_3, rfl⟩ : ∃ y_7_0 y_7_1 y_7_2 y_7_3, xs_7 = [y_7_0, y_7_1, y_7_2, y_7_3] := by
    match xs_7, hl_7 with
    | [a0, a1, a2, a3], _ => exact ⟨a0, a1, a2, a3, rfl⟩
  have g_7_0 : DataW.trod enc Try.prog W 0 (fun _ => true) true n_7 52 [c14] = some y_7_0 := by
    have h := hg_7 0 _ rfl
    have hk : Try.prog.cellsOf 52 = 1 := by kernel_rfl
    exact (congrArg (DataW.trod enc Try.prog W 0 (fun _ => true) true n_7 52) (show _ = ((([c14, c15, c16, c17] : List Value).drop 0).take (Try.prog.cellsOf 52)) by rw [hk]; rfl)).trans h
  have g_7_1 : DataW.trod enc Try.prog W 0 (fun _ => true) true n_7 52 [c15] = some y_7_1 := by
    have h := hg_7 1 _ rfl
    have hk : Try.prog.cellsOf 52 = 1 := by kernel_rfl
    exact (congrArg (DataW.trod enc Try.prog W 0 (fun _ => true) true n_7 52) (show _ = ((([c14, c15, c16, c17] : List Value).drop 1).take (Try.prog.cellsOf 52)) by rw [hk]; rfl)).trans h
  have g_7_2 : DataW.trod enc Try.prog W 0 (fun _ => true) true n_7 9 [c16] = some y_7_2 := by
    have h := hg_7 2 _ rfl
    have hk : Try.prog.cellsOf 9 = 1 := by kernel_rfl
    exact (congrArg (DataW.trod enc Try.prog W 0 (fun _ => true) true n_7 9) (show _ = ((([c14, c15, c16, c17] : List Value).drop 2).take (Try.prog.cellsOf 9)) by rw [hk]; rfl)).trans h
  have g_7_3 : DataW.trod enc Try.prog W 0 (fun _ => true) true n_7 4 [c17] = some y_7_3 := by
    have h := hg_7 3 _ rfl
    have hk : Try.prog.cellsOf 4 = 1 := by kernel_rfl
    exact (congrArg (DataW.trod enc Try.prog W 0 (fun _ => true) true n_7 4) (show _ = ((([c14, c15, c16, c17] : List Value).drop 3).take (Try.prog.cellsOf 4)) by rw [hk]; rfl)).trans h
  have g_8 : DataW.trod enc Try.prog W 0 (fun _ => true) true n 57 [c18, c19, c20, c21] = some y_8 := by
    have h := hg 8 _ rfl
    have hk : Try.prog.cellsOf 57 = 4 := by kernel_rfl
    exact (congrArg (DataW.trod enc Try.prog W 0 (fun _ => true) true n 57) (show _ = ((([c0, c1, c2, c3, c4, c5, c6, c7, c8, c9, c10, c11, c12, c13, c14, c15, c16, c17, c18, c19, c20, c21, c22, c23] : List Value).drop 18).take (Try.prog.cellsOf 57)) by rw [hk]; rfl)).trans h
  obtain ⟨xs_8, n_8, _, _, _, hl_8, hg_8⟩ := DataW.trod_struct Try.underlying57 g_8
  obtain ⟨y_8_0, y_8_1, y_8_2, y_8_3, rfl⟩ : ∃ y_8_0 y_8_1 y_8_2 y_8_3, xs_8 = [y_8_0, y_8_1, y_8_2, y_8_3] := by
    match xs_8, hl_8 with
    | [a0, a1, a2, a3], _ => exact ⟨a0, a1, a2, a3, rfl⟩
  have g_8_0 : DataW.trod enc Try.prog W 0 (fun _ => true) true n_8 55 [c18] = some y_8_0 := by
    have h := hg_8 0 _ rfl
    have hk : Try.prog.cellsOf 55 = 1 := by kernel_rfl
    exact (congrArg (DataW.trod enc Try.prog W 0 (fun _ => true) true n_8 55) (show _ = ((([c18, c19, c20, c21] : List Value).drop 0).take (Try.prog.cellsOf 55)) by rw [hk]; rfl)).trans h
  have g_8_1 : DataW.trod enc Try.prog W 0 (fun _ => true) true n_8 9 [c19] = some y_8_1 := by
    have h := hg_8 1 _ rfl
    have hk : Try.prog.cellsOf 9 = 1 := by kernel_rfl
    exact (congrArg (DataW.trod enc Try.prog W 0 (fun _ => true) true n_8 9) (show _ = ((([c18, c19, c20, c21] : List Value).drop 1).take (Try.prog.cellsOf 9)) by rw [hk]; rfl)).trans h
  have g_8_2 : DataW.trod enc Try.prog W 0 (fun _ => true) true n_8 3 [c20] = some y_8_2 := by
    have h := hg_8 2 _ rfl
    have hk : Try.prog.cellsOf 3 = 1 := by kernel_rfl
    exact (congrArg (DataW.trod enc Try.prog W 0 (fun _ => true) true n_8 3) (show _ = ((([c18, c19, c20, c21] : List Value).drop 2).take (Try.prog.cellsOf 3)) by rw [hk]; rfl)).trans h
  have g_8_3 : DataW.trod enc Try.prog W 0 (fun _ => true) true n_8 4 [c21] = some y_8_3 := by
    have h := hg_8 3 _ rfl
    have hk : Try.prog.cellsOf 4 = 1 := by kernel_rfl
    exact (congrArg (DataW.trod enc Try.prog W 0 (fun _ => true) true n_8 4) (show _ = ((([c18, c19, c20, c21] : List Value).drop 3).take (Try.prog.cellsOf 4)) by rw [hk]; rfl)).trans h
  have g_9 : DataW.trod enc Try.prog W 0 (fun _ => true) true n 58 [c22] = some y_9 := by
    have h := hg 9 _ rfl
    have hk : Try.prog.cellsOf 58 = 1 := by kernel_rfl
    exact (congrArg (DataW.trod enc Try.prog W 0 (fun _ => true) true n 58) (show _ = ((([c0, c1, c2, c3, c4, c5, c6, c7, c8, c9, c10, c11, c12, c13, c14, c15, c16, c17, c18, c19, c20, c21, c22, c23] : List Value).drop 22).take (Try.prog.cellsOf 58)) by rw [hk]; rfl)).trans h
  have g_10 : DataW.trod enc Try.prog W 0 (fun _ => true) true n 59 [c23] = some y_10 := by
    have h := hg 10 _ rfl
    have hk : Try.prog.cellsOf 59 = 1 := by kernel_rfl
    exact (congrArg (DataW.trod enc Try.prog W 0 (fun _ => true) true n 59) (show _ = ((([c0, c1, c2, c3, c4, c5, c6, c7, c8, c9, c10, c11, c12, c13, c14, c15, c16, c17, c18, c19, c20, c21, c22, c23] : List Value).drop 23).take (Try.prog.cellsOf 59)) by rw [hk]; rfl)).trans h
  obtain ⟨err, e_, -, werr⟩ := DataW.trod_int Try.underlying33 g_0
  obtain rfl : c0 = .int .i64 err := by simpa using e_
  clear e_
  replace werr := wf_bounds werr
  obtain ⟨id, e_, -, wid⟩ := DataW.trod_int Try.underlying3 g_1
  obtain rfl : c1 = .int .i64 id := by simpa using e_
  clear e_
  replace wid := wf_bounds wid
  obtain ⟨time, e_, -, wtime⟩ := DataW.trod_int Try.underlying3 g_2
  obtain rfl : c2 = .int .i64 time := by simpa using e_
  clear e_
  replace wtime := wf_bounds wtime
  obtain ⟨s_, e_, -, ztext⟩ := DataW.trod_string Try.underlying9 g_3
  obtain ⟨text, l1_, l2_, l3_⟩ := bytes_of s_
  rw [l3_] at ztext
  subst l1_
  obtain rfl : c3 = .string ⟨text.toArray⟩ := by simpa using e_
  clear e_ l2_ l3_
  obtain ⟨re, e_, -, wre⟩ := DataW.trod_int Try.underlying3 g_4_0
  obtain rfl : c4 = .int .i64 re := by simpa using e_
  clear e_
  replace wre := wf_bounds wre
  obtain ⟨im, e_, -, wim⟩ := DataW.trod_int Try.underlying3 g_4_1
  obtain rfl : c5 = .int .i64 im := by simpa using e_
  clear e_
  replace wim := wf_bounds wim
  obtain ⟨s_, e_, -, zversion⟩ := DataW.trod_string Try.underlying9 g_5_0
  obtain ⟨version, l1_, l2_, l3_⟩ := bytes_of s_
  rw [l3_] at zversion
  subst l1_
  obtain rfl : c6 = .string ⟨version.toArray⟩ := by simpa using e_
  clear e_ l2_ l3_
  obtain ⟨size, e_, -, wsize⟩ := DataW.trod_int Try.underlying3 g_5_1_0
  obtain rfl : c7 = .int .i64 size := by simpa using e_
  clear e_
  replace wsize := wf_bounds wsize
  obtain ⟨hre, e_, -, whre⟩ := DataW.trod_int Try.underlying3 g_5_1_1_0
  obtain rfl : c8 = .int .i64 hre := by simpa using e_
  clear e_
  replace whre := wf_bounds whre
  obtain ⟨him, e_, -, whim⟩ := DataW.trod_int Try.underlying3 g_5_1_1_1
  obtain rfl : c9 = .int .i64 him := by simpa using e_
  clear e_
  replace whim := wf_bounds whim
  obtain ⟨gone, e_, -⟩ := DataW.trod_bool Try.underlying4 g_5_1_2
  obtain rfl : c10 = .bool gone := by simpa using e_
  clear e_
  obtain ⟨null, e_, -⟩ := DataW.trod_bool Try.underlying4 g_5_1_3
  obtain rfl : c11 = .bool null := by simpa using e_
  clear e_
  obtain ⟨s_, e_, -, zbody⟩ := DataW.trod_string Try.underlying9 g_5_2
  obtain ⟨body, l1_, l2_, l3_⟩ := bytes_of s_
  rw [l3_] at zbody
  subst l1_
  obtain rfl : c12 = .string ⟨body.toArray⟩ := by simpa using e_
  clear e_ l2_ l3_
  obtain ⟨rw_, hBnames, -, -, hr_⟩ := open_rows Try.underlying52 (by kernel_rfl) (by decide : 0 < 1) g_6
  obtain ⟨names, rfl, qnames⟩ := rows_map rw_ fun r h => by obtain ⟨hr, m, x, hx⟩ := hr_ r h; exact row_txt hx
  rw [List.length_map] at hBnames
  obtain ⟨rw_, hBlnames, -, -, hr_⟩ := open_rows Try.underlying52 (by kernel_rfl) (by decide : 0 < 1) g_7_0
  obtain ⟨lnames, rfl, qlnames⟩ := rows_map rw_ fun r h => by obtain ⟨hr, m, x, hx⟩ := hr_ r h; exact row_txt hx
  rw [List.length_map] at hBlnames
  obtain ⟨rw_, hBlpre, -, -, hr_⟩ := open_rows Try.underlying52 (by kernel_rfl) (by decide : 0 < 1) g_7_1
  obtain ⟨lpre, rfl, qlpre⟩ := rows_map rw_ fun r h => by obtain ⟨hr, m, x, hx⟩ := hr_ r h; exact row_txt hx
  rw [List.length_map] at hBlpre
  obtain ⟨s_, e_, -, znext⟩ := DataW.trod_string Try.underlying9 g_7_2
  obtain ⟨next, l1_, l2_, l3_⟩ := bytes_of s_
  rw [l3_] at znext
  subst l1_
  obtain rfl : c16 = .string ⟨next.toArray⟩ := by simpa using e_
  clear e_ l2_ l3_
  obtain ⟨more, e_, -⟩ := DataW.trod_bool Try.underlying4 g_7_3
  obtain rfl : c17 = .bool more := by simpa using e_
  clear e_
  obtain ⟨rw_, hBlines, -, -, hr_⟩ := open_rows Try.underlying55 (by kernel_rfl) (by decide : 0 < 8) g_8_0
  obtain ⟨lines, rfl, qlines⟩ := rows_map rw_ fun r h => by obtain ⟨hr, m, x, hx⟩ := hr_ r h; exact row_ln hr hx
  rw [List.length_map] at hBlines
  obtain ⟨s_, e_, -, zlobject⟩ := DataW.trod_string Try.underlying9 g_8_1
  obtain ⟨lobject, l1_, l2_, l3_⟩ := bytes_of s_
  rw [l3_] at zlobject
  subst l1_
  obtain rfl : c19 = .string ⟨lobject.toArray⟩ := by simpa using e_
  clear e_ l2_ l3_
  obtain ⟨lid, e_, -, wlid⟩ := DataW.trod_int Try.underlying3 g_8_2
  obtain rfl : c20 = .int .i64 lid := by simpa using e_
  clear e_
  replace wlid := wf_bounds wlid
  obtain ⟨lmore, e_, -⟩ := DataW.trod_bool Try.underlying4 g_8_3
  obtain rfl : c21 = .bool lmore := by simpa using e_
  clear e_
  obtain ⟨rw_, hBups, -, -, hr_⟩ := open_rows Try.underlying58 (by kernel_rfl) (by decide : 0 < 2) g_9
  obtain ⟨ups, rfl, qups⟩ := rows_map rw_ fun r h => by obtain ⟨hr, m, x, hx⟩ := hr_ r h; exact row_up hr hx
  rw [List.length_map] at hBups
  obtain ⟨rw_, hBparts, -, -, hr_⟩ := open_rows Try.underlying59 (by kernel_rfl) (by decide : 0 < 6) g_10
  obtain ⟨parts, rfl, qparts⟩ := rows_map rw_ fun r h => by obtain ⟨hr, m, x, hx⟩ := hr_ r h; exact row_pt hr hx
  rw [List.length_map] at hBparts
  have b13 : ∀ k, At c13 k → k < W.heap.size := by
    obtain ⟨u_, hu_, hc_⟩ := hcell 13 c13 rfl
    obtain rfl : 52 = u_ := by simpa using hu_
    exact slice_lt Try.underlying52 hc_
  have b14 : ∀ k, At c14 k → k < W.heap.size := by
    obtain ⟨u_, hu_, hc_⟩ := hcell 14 c14 rfl
    obtain rfl : 52 = u_ := by simpa using hu_
    exact slice_lt Try.underlying52 hc_
  have b15 : ∀ k, At c15 k → k < W.heap.size := by
    obtain ⟨u_, hu_, hc_⟩ := hcell 15 c15 rfl
    obtain rfl : 52 = u_ := by simpa using hu_
    exact slice_lt Try.underlying52 hc_
  have b18 : ∀ k, At c18 k → k < W.heap.size := by
    obtain ⟨u_, hu_, hc_⟩ := hcell 18 c18 rfl
    obtain rfl : 55 = u_ := by simpa using hu_
    exact slice_lt Try.underlying55 hc_
  have b22 : ∀ k, At c22 k → k < W.heap.size := by
    obtain ⟨u_, hu_, hc_⟩ := hcell 22 c22 rfl
    obtain rfl : 58 = u_ := by simpa using hu_
    exact slice_lt Try.underlying58 hc_
  have b23 : ∀ k, At c23 k → k < W.heap.size := by
    obtain ⟨u_, hu_, hc_⟩ := hcell 23 c23 rfl
    obtain rfl : 59 = u_ := by simpa using hu_
    exact slice_lt Try.underlying59 hc_
  rw [flat_one (fun s : List UInt8 => Value.string ⟨s.toArray⟩)] at hBnames hBlnames hBlpre
  rw [← List.flatMap_def] at hBlines hBups hBparts
  refine ⟨⟨err, id, time, text, re, im, version, ⟨size, hre, him, gone, null⟩, body, names, lnames, lpre, next, more, lines, lobject, lid, lmore, ups, parts⟩, ⟨c13, c14, c15, c18, c22, c23⟩, rfl, ⟨hBnames, hBlnames, hBlpre, hBlines, hBups, hBparts⟩, ⟨?_, qnames, qlnames, qlpre, fun x hx => (qlines x hx).1, fun x hx => (qups x hx).1⟩, ⟨wid, wtime, wlid, fun x hx => (qlines x hx).2, fun x hx => (qups x hx).2⟩, fun k h => ?_⟩
  · intro s hs
    simp only [List.mem_cons, List.not_mem_nil, or_false] at hs
    rcases hs with rfl | rfl | rfl | rfl | rfl <;> assumption
  · rcases h with h | h | h | h | h | h
    · exact b13 k h
    · exact b14 k h
    · exact b15 k h
    · exact b18 k h
    · exact b22 k h
    · exact b23 k h
end Go.Proofs.Ytogekobpjjmnjaa
