/- slices.Backward over pending writes. -/
import Derived.Test.YtfjcjppfihafgaaMBlC
import Derived.RangeFuncNested
import Derived.RangeFuncBound
import Derived.RangeFuncCalls
import Derived.RangeFuncLeaves
import Derived.Shelf.Abstract
import Derived.Shelf.RegionOpen
import Derived.WalkKit
import Derived.OwnWalkIn
import Derived.TacticsInMore
import Derived.WalkSmall
import Derived.LoopNIn
import Derived.LoopIn
import Derived.Great.BuildSlice
namespace Go.Proofs.Ytfjcjppfihafgaa
open Go.RowKit Go.Amb Go.Shelf
set_option linter.unusedVariables false
set_option linter.unusedSimpArgs false
set_option maxRecDepth 100000
attribute [local go_sem] Oper.semAt_some
/-- The indexes from the last one down. -/
def down (n : Nat) : List Nat := (List.range n).reverse
def backE (P : List (List UInt8 × Nat)) (x : Fin P.length) : Array Value := #[.int .i64 (x.val : Int), .agg (pc P[x.val]).toArray]
/-- What a round keeps: the box, the row. -/
def BackK (b : Nat) (pv : Value) (W W' : World) : Prop := W'.heap[b]? = W.heap[b]? ∧ ∀ k, At pv k → W'.heap[k]? = W.heap[k]?
theorem owns_same {w w' : World} {base : Nat} {e : TypeId} {m : Nat} {v : Value} {n : Nat} {xs : List Value} (h : w.ownsRow base e m v n xs) (hs : ∀ k, At v k → w'.heap[k]? = w.heap[k]?) : w'.ownsRow base e m v n xs := by
  refine ⟨h.1, ?_⟩
  rcases h.2 with hv | ⟨g, cap, cur, rfl, hb, hgg, rest⟩
  · exact .inl hv
  · exact .inr ⟨g, cap, cur, rfl, hb, (hs g rfl).trans hgg, rest⟩
theorem down_succ (n : Nat) : down (n + 1) = n :: down n := by unfold down; rw [List.range_succ, List.reverse_append]; rfl
set_option maxHeartbeats 1000000 in
theorem iter_back (P : List (List UInt8 × Nat)) (hl : ∀ p ∈ P, p.1.length = 128) (hn : P.length ≤ 1000000) (b : Nat) (pv : Value) (w0 : World) (hb : w0.heap[b]? = some (.cells #[pv] 71 (0, 0)))
    (hP : w0.ownsRow 0 87 129 pv P.length (P.map pc).flatten) :
    SeqStopsK Fence.wide 4 Try.prog 57 #[.pointer (some ⟨b, 0, none⟩)] (backE P) (BackK b pv) (fun xs => xs.map (·.val) = down P.length) (fun xs => xs.map (·.val) <+: down P.length) P.length w0 := by
  intro l J Jx W hW hJ hJx hY h0
  have hbW := (hW.block b (heap_lt hb)).trans hb
  have hPW : W.ownsRow 0 87 129 pv P.length (P.map pc).flatten := owns_same hP fun k hk => hW.block k (own_lt hP hk)
  have hpl : ∀ s ∈ P.map pc, s.length = 129 := by
    intro s hs
    obtain ⟨x, hx, rfl⟩ := List.mem_map.1 hs
    simp [pc, bc_length, hl x hx]
  obtain ⟨n, hnn⟩ : ∃ n, P.length = n := ⟨_, rfl⟩
  obtain ⟨_, pa, pcap, hpv, hpc1, hpc2, -⟩ := has_of_owns hPW
  have c0 := (cells_of hbW).1 0
  rw [hpv] at c0
  have c0' : W.cell? ⟨b, 0, none⟩ = some (.slice pa P.length pcap) := c0
  clear c0
  refine callsIn_of_wp Try.func57 rfl trivial ?_ rfl
  simp only [Try.ntmps57, List.size_toArray, List.length_cons, List.length_nil, Nat.reduceAdd, Nat.reduceSub, Array.replicate_succ, Array.replicate_zero, List.push_toArray, List.append_toArray, List.nil_append, List.cons_append]
  have hw : IntKind.i64.wrap ((P.length : Int) - 1) = (P.length : Int) - 1 := IntWalk.i64_in _ ⟨by omega, by omega⟩
  rw [hnn] at hPW hw
  clear hpl
  gi_wp2
  gi_loopw [3] (fun iv wr => ∃ (k : Nat) (pre : List (Fin P.length)), iv = .int .i64 ((k : Int) - 1) ∧ k ≤ n ∧ pre.map (·.val) ++ down k = down n ∧ J pre wr ∧ wr.heap[b]? = some (.cells #[pv] 71 (0, 0)) ∧ wr.ownsRow 0 87 129 pv n (P.map pc).flatten) (fun iv _ => (intOf iv + 1).toNat)
  case atStart => exact ⟨n, [], rfl, Nat.le_refl _, by simp, h0, hbW, hPW⟩
  case round =>
    obtain ⟨k, pre, rfl, hk, hpre, hJ', hbw, hPw⟩ := hrel
    cases k with
    | zero =>
      rw [show ((0 : Nat) : Int) - 1 = -1 by omega]
      gi_wp2
      refine bodyPost_end (results_none rfl _ _ _) rfl ?_
      refine ⟨⟨_, rfl⟩, .inl ⟨pre, ?_, hJ'⟩⟩
      simpa [down, hnn] using hpre
    | succ k =>
      have hpl : ∀ s ∈ P.map pc, s.length = 129 := by
        intro s hs
        obtain ⟨x, hx, rfl⟩ := List.mem_map.1 hs
        simp [pc, bc_length, hl x hx]
      have hkP : k < P.length := by omega
      have hlen : pre.length < P.length := by
        have := congrArg List.length hpre
        simp [down] at this; omega
      have hy0 := hY pre ⟨k, hkP⟩ wr hJ' hlen
      obtain ⟨g, c, hgc, hat, hnc, hcm, hrg, -⟩ := own_range hPw hpl (by rw [List.length_map, hnn]) k (by omega)
      have hgetp : (P.map pc)[k]'(by rw [List.length_map]; omega) = pc P[k] := List.getElem_map ..
      rw [hgetp] at hrg
      have hsz : (Try.prog.info? 87).map (·.size) = some (pc P[k]).length := by rw [show (pc P[k]).length = 129 by simp [pc, bc_length, hl _ (List.getElem_mem hkP)]]; kernel_rfl
      have c0 : wr.cell? ⟨b, 0, none⟩ = some (.slice (some ⟨g, 0, none⟩) n c) := by rw [← hgc]; exact (cells_of hbw).1 0
      unfold backE at hy0
      dsimp only at hy0
      generalize hpk : pc P[k] = pk at *
      obtain ⟨fn, tmps, assign, body, hy, hR⟩ := hy0
      have hk1 : ((k + 1 : Nat) : Int) - 1 = k := by omega
      rw [hk1]
      have hkn : (k : Int) < (n : Int) := by omega
      have hk0 : (0 : Int) ≤ (k : Int) := by omega
      have hwk : IntKind.i64.wrap ((k : Int) - 1) = (k : Int) - 1 := IntWalk.i64_in _ ⟨by omega, by omega⟩
      clear hY hgetp hpk c0' hw
      replace hrg := Lib.hid hrg
      replace hsz := Lib.hid hsz
      replace hPw := Lib.hid hPw
      gi_wp2_with (refine wpListIn_load_mid rfl 87 _ rfl g (k * 129) rfl pk _ hrg.out Try.underlying87 rfl hsz.out ?_)
      refine hR.mono ?_
      rintro e W3 (⟨rfl, hJ3, hk3, hk4⟩ | ⟨rfl, hJx3⟩)
      · gi_wp2
        go_roundw
        case rel =>
          refine ⟨k, pre ++ [⟨k, hkP⟩], by go_num, by omega, ?_, hJ3, hk3.trans hbw, owns_same hPw.out hk4⟩
          rw [down_succ] at hpre
          rw [List.map_append, List.append_assoc]
          exact hpre
        case measure => simp [intOf]
      · gi_wp2
        refine bodyPost_ret (results_none rfl _ _ _) rfl ?_
        refine ⟨⟨_, rfl⟩, .inr ⟨_, ?_, hJx3⟩⟩
        rw [down_succ] at hpre
        rw [List.map_append, show down P.length = down n from congrArg down hnn]
        exact ⟨down k, by rw [List.append_assoc]; exact hpre⟩
end Go.Proofs.Ytfjcjppfihafgaa

namespace Go.Proofs.Ytfjcjppfihafgaa
set_option maxRecDepth 100000
open Go.RowKit Go.Amb Go.Shelf
set_option linter.unusedVariables false
set_option linter.unusedSimpArgs false
theorem reverse_down (P : List (List UInt8 × Nat)) : P.reverse = (down P.length).map fun k => P.getD k ([], 0) := by
  have h : (List.range P.length).map (fun k => P.getD k ([], 0)) = P := by
    apply List.ext_getElem
    · simp
    · intro k h1 h2
      simp only [List.getElem_map, List.getElem_range, List.getD_eq_getElem?_getD, List.getElem?_eq_getElem h2, Option.getD_some]
  unfold down
  rw [List.map_reverse, h]
theorem getD_fin (P : List (List UInt8 × Nat)) (y : Fin P.length) : P.getD y.val ([], 0) = P[y.val] := by
  simp [List.getD_eq_getElem?_getD, List.getElem?_eq_getElem y.isLt]
theorem lastAt_none {P : List (List UInt8 × Nat)} {i : Nat} {xs : List (Fin P.length)} (h : xs.map (·.val) = down P.length) (hn : ∀ y ∈ xs, P[y.val].2 ≠ i) : lastAt P i = none := by
  unfold lastAt
  rw [reverse_down, ← h, List.map_map, List.find?_eq_none.2]
  · rfl
  · intro p hp
    obtain ⟨y, hy, rfl⟩ := List.mem_map.1 hp
    have := hn y hy
    simp only [Function.comp, getD_fin, decide_eq_true_eq]
    exact this
theorem lastAt_some {P : List (List UInt8 × Nat)} {i : Nat} {pre : List (Fin P.length)} {x : Fin P.length} (h : (pre ++ [x]).map (·.val) <+: down P.length) (hn : ∀ y ∈ pre, P[y.val].2 ≠ i) (hx : P[x.val].2 = i) : lastAt P i = some P[x.val].1 := by
  obtain ⟨rest, hr⟩ := h
  unfold lastAt
  rw [reverse_down, ← hr, List.map_append, List.map_map, List.map_append, List.find?_append, List.find?_append, List.find?_eq_none.2]
  · simp [getD_fin, hx]
  · intro p hp
    obtain ⟨y, hy, rfl⟩ := List.mem_map.1 hp
    have := hn y hy
    simp only [Function.comp, getD_fin, decide_eq_true_eq]
    exact this
/-- A block of its own is written whole. -/
theorem old_row {W : World} {M : Nat} {Z : Array Value} {t : TypeId} (hM : W.heap[M]? = some (.cells Z t (0, 0))) (cs : List Value) (h : Z.size = cs.length) :
    W.there M 0 cs.length ∧ Upd (fun k => k = M) W (W.setCells M 0 cs) ∧ (W.setCells M 0 cs).heap[M]? = some (.cells cs.toArray t (0, 0)) := by
  have hc := cells_of hM
  refine ⟨fun j hj => ⟨?_, hc.2 _⟩, upd_setCells _ _ _ _, ?_⟩
  · rw [hc.1, Nat.zero_add, Array.getElem?_eq_getElem (by omega)]; rfl
  · have := heap_setCells M t cs 0 W Z hM (by omega)
    rw [this, List.take_zero, List.nil_append, Nat.zero_add, List.drop_of_length_le (by simp; omega), List.append_nil]
theorem new_row (W : World) (Z : Array Value) (t : TypeId) (cs : List Value) (h : Z.size = cs.length) :
    (W.alloc (.cells Z t)).there W.heap.size 0 cs.length ∧ Upd (fun k => W.heap.size ≤ k) W ((W.alloc (.cells Z t)).setCells W.heap.size 0 cs) ∧ ((W.alloc (.cells Z t)).setCells W.heap.size 0 cs).heap[W.heap.size]? = some (.cells cs.toArray t (0, 0)) := by
  obtain ⟨h1, h2, h3⟩ := old_row (heap_alloc_new W (.cells Z t)) cs h
  exact ⟨h1, (Upd.alloc _ W _).trans h2 fun k hk h => by omega, h3⟩
theorem bytes_block {w : World} {M : Nat} {s : List UInt8} {t : TypeId} (h : w.heap[M]? = some (.cells (bc s).toArray t (0, 0))) (hs : s.length = 128) : Bytes w (.slice (some ⟨M, 0, none⟩) 128 128) s := by
  have hc := cells_of h
  refine ⟨by rw [bc_length, Nat.mul_one], _, 128, by rw [hs], by omega, by unfold maxLen; omega, .inr ⟨M, 0, rfl, fun j u hj => ?_⟩⟩
  rw [hc.1, Nat.zero_add]
  simpa using hj
end Go.Proofs.Ytfjcjppfihafgaa
namespace Go.Amb
open Go.RowKit
theorem Upd.grown {S : Nat → Prop} {w W W' : World} {row : Option Nat} (h : Upd S w W) (hg : W.grownBy W' row) (hr : ∀ r, row = some r → w.heap.size ≤ r) : Upd S w W' :=
  ⟨hg.os.trans h.os, hg.tape.trans h.tape, hg.output.trans h.output, Nat.le_trans h.size hg.size, fun k hk hn => (hg.block k (Nat.lt_of_lt_of_le hk h.size) (fun e => by have := hr k e.symm; omega)).trans (h.block k hk hn)⟩
theorem heap_grown {W W' : World} {row : Option Nat} {M : Nat} {o : Obj} (h : W.heap[M]? = some o) (hg : W.grownBy W' row) (hr : some M ≠ row) : W'.heap[M]? = some o := (hg.block M (heap_lt h) hr).trans h
theorem Upd.putObj {S : Nat → Prop} {w W : World} (h : Upd S w W) {l : Nat} (hl : w.heap.size ≤ l) (o : Obj) : Upd S w (W.putObj l o) :=
  ⟨h.os, h.tape, h.output, by simpa using h.size, fun k hk hn => (World.putObj_heap_other (by omega)).trans (h.block k hk hn)⟩
theorem fill_one {size : Nat} (hp : 0 < size) (z : Array Value) (cs : List Value) (hl : cs.length = size) (hz : z.size = 1 * size) :
    Instr.fill (fun i => some (i * size, size)) z [(0, Value.agg cs.toArray)] = some cs.toArray := by
  obtain ⟨r, h1, h2, h3⟩ := Great.fill_dense hp [Value.agg cs.toArray] 0 z (fun v hv => by rw [List.mem_singleton] at hv; subst hv; simpa [Value.cells] using hl) (by simp; omega)
  simp only [List.zipIdx_cons, List.zipIdx_nil, List.map_cons, List.map_nil] at h1
  rw [h1]
  congr 1
  apply Array.ext_getElem?
  intro k
  rw [h3 k]
  simp only [List.length_cons, List.length_nil, Nat.zero_mul, Nat.zero_le, true_and, Nat.zero_add, Nat.one_mul]
  by_cases hk : k < size
  · rw [if_pos hk, Nat.div_eq_of_lt hk, Nat.mod_eq_of_lt hk]
    simp [Value.cells]
  · rw [if_neg hk, Array.getElem?_eq_none (by omega)]
    simp only [List.getElem?_toArray]
    rw [List.getElem?_eq_none (by omega)]
theorem run_build1 {P : Program} {t e : TypeId} {z : Value} {size : Nat} (ht : P.underlying t = some (.slice e)) (hinfo : (P.info? e).map (fun i => (i.zero, i.size)) = some (some z, size)) (hp : 0 < size) (hs : size ≤ 16777216) (cs : List Value) (hl : cs.length = size) (w : World) :
    (Instr.buildSlice t 1 #[(0, .agg cs.toArray)]).run P w = .ok (.slice (some ⟨w.heap.size, 0, none⟩) 1 1) (w.alloc (.cells cs.toArray e)) := by
  cases hq : P.info? e with
  | none => simp [hq] at hinfo
  | some i =>
    simp [hq] at hinfo
    obtain ⟨hz, hi⟩ := hinfo
    refine run_buildSlice w t e 1 _ _ i z ht hq hz (by rw [hi]; omega) (by rw [hi]; omega) ?_
    rw [hi]
    exact fill_one hp _ cs hl (by simp)
/-- '[]T{x}' at a step of a region that draws its order; x of many cells. -/
theorem step_build1 {P : Program} {w : World} {ops : Array Oper} {o : Oper} {a : Act} {K : Act → World → Prop} {Q : Exit → Act → World → Prop} {E : Prop} (hgd : o.guard = none) (t e : TypeId) (x : Operand) (ho : o.op = .buildSlice t 1 #[(0, x)])
    {z : Value} {size : Nat} (ht : P.underlying t = some (.slice e)) (hinfo : (P.info? e).map (fun i => (i.zero, i.size)) = some (some z, size)) (hp : 0 < size) (hs : size ≤ 16777216) (cs : List Value) (hl : cs.length = size) (hx : a.eval x = .agg cs.toArray)
    (h : K (a.put o.dst (.slice (some ⟨w.heap.size, 0, none⟩) 1 1)) ((w.alloc (.cells cs.toArray e)).drew)) :
    if Region.wanted o (yielded ops a.tmps) = true then Oper.wp P o a w.drew K Q else E := by
  have hw : Region.wanted o (yielded ops a.tmps) = true := by simp [Region.wanted, hgd]
  rw [if_pos hw]
  have hr := run_build1 ht hinfo hp hs cs hl w.drew
  unfold Oper.wp execOp
  simp only [ho, List.map_toArray, List.map_cons, List.map_nil, hx, hr, Sem.run_bind, Sem.run_pure, Result.andThen_ok]
  exact h
end Go.Amb
namespace Go.Proofs.Ytfjcjppfihafgaa
open Go.RowKit Go.Amb Go.Shelf
theorem info_write : (Try.prog.info? 87).map (fun i => (i.zero, i.size)) = some (some (.agg ((Array.replicate 128 (.int .u8 0)).push (.int .i64 0))), 129) := by kernel_rfl
theorem size_sector : (Try.prog.info? 82).map (·.size) = some 128 := by kernel_rfl
theorem size_write : (Try.prog.info? 87).map (·.size) = some 129 := by kernel_rfl
theorem pc_length {p : List UInt8 × Nat} (h : p.1.length = 128) : (pc p).length = 129 := by simp [pc, bc_length, h]
theorem pc_one (p : List UInt8 × Nat) : ∀ u ∈ pc p, u.oneCell' = true := by
  intro u hu
  rcases List.mem_append.1 hu with h | h
  · exact bc_one _ u h
  · rw [List.mem_singleton] at h; subst h; rfl
end Go.Proofs.Ytfjcjppfihafgaa
