/- slices.Backward over pending writes. -/
import Derived.Test.YtmnoldikimcafaaMBlC
import Derived.RangeFuncNested
import Derived.RangeFuncBound
import Derived.RangeFuncCalls
import Derived.RangeFuncLeaves
import Derived.Shelf.Abstract
import Derived.Shelf.RegionOpen
import Derived.WalkKit
import Derived.OwnWalkIn
import Derived.TacticsInMore
import Derived.WalkSmall
import Derived.LoopNIn
import Derived.LoopIn
import Derived.Great.BuildSlice
import Derived.Deep.RegionHeld3
import Derived.Deep.QuietTactic
namespace Go.Proofs.Ytmnoldikimcafaa
open Go.RowKit Go.Amb Go.Shelf
set_option linter.unusedVariables false
set_option linter.unusedSimpArgs false
set_option maxRecDepth 100000
attribute [local go_sem] Oper.semAt_some
/-- The indexes from the last one down. -/
def down (n : Nat) : List Nat := (List.range n).reverse
def backE (P : List (List UInt8 × Nat)) (x : Fin P.length) : Array Value := #[.int .i64 (x.val : Int), .agg (pc P[x.val]).toArray]
/-- What a round keeps: the box, the row. -/
def BackK (b : Nat) (pv : Value) (W W' : World) : Prop := W'.heap[b]? = W.heap[b]? ∧ ∀ k, At pv k → W'.heap[k]? = W.heap[k]?
theorem owns_same {w w' : World} {base : Nat} {e : TypeId} {m : Nat} {v : Value} {n : Nat} {xs : List Value} (h : w.ownsRow base e m v n xs) (hs : ∀ k, At v k → w'.heap[k]? = w.heap[k]?) : w'.ownsRow base e m v n xs := by
  refine ⟨h.1, ?_⟩
  rcases h.2 with hv | ⟨g, cap, cur, rfl, hb, hgg, rest⟩
  · exact .inl hv
  · exact .inr ⟨g, cap, cur, rfl, hb, (hs g rfl).trans hgg, rest⟩
theorem down_succ (n : Nat) : down (n + 1) = n :: down n := by unfold down; rw [List.range_succ, List.reverse_append]; rfl
set_option maxHeartbeats 1000000 in
theorem iter_back (P : List (List UInt8 × Nat)) (hl : ∀ p ∈ P, p.1.length = 128) (hn : P.length ≤ 1000000) (b : Nat) (pv : Value) (w0 : World) (hb : w0.heap[b]? = some (.cells #[pv] 46 (0, 0)))
    (hP : w0.ownsRow 0 77 129 pv P.length (P.map pc).flatten) :
    SeqStopsK Fence.wide 4 Try.prog 70 #[.pointer (some ⟨b, 0, none⟩)] (backE P) (BackK b pv) (fun xs => xs.map (·.val) = down P.length) (fun xs => xs.map (·.val) <+: down P.length) P.length w0 := by
  intro l J Jx W hW hJ hJx hY h0
  have hbW := (hW.block b (heap_lt hb)).trans hb
  have hPW : W.ownsRow 0 77 129 pv P.length (P.map pc).flatten := owns_same hP fun k hk => hW.block k (own_lt hP hk)
  have hpl : ∀ s ∈ P.map pc, s.length = 129 := by
    intro s hs
    obtain ⟨x, hx, rfl⟩ := List.mem_map.1 hs
    simp [pc, bc_length, hl x hx]
  obtain ⟨n, hnn⟩ : ∃ n, P.length = n := ⟨_, rfl⟩
  obtain ⟨_, pa, pcap, hpv, hpc1, hpc2, -⟩ := has_of_owns hPW
  have c0 := (cells_of hbW).1 0
  rw [hpv] at c0
  have c0' : W.cell? ⟨b, 0, none⟩ = some (.slice pa P.length pcap) := c0
  clear c0
  refine callsIn_of_wp Try.func70 rfl trivial ?_ rfl
  simp only [Try.ntmps70, List.size_toArray, List.length_cons, List.length_nil, Nat.reduceAdd, Nat.reduceSub, Array.replicate_succ, Array.replicate_zero, List.push_toArray, List.append_toArray, List.nil_append, List.cons_append]
  have hw : IntKind.i64.wrap ((P.length : Int) - 1) = (P.length : Int) - 1 := IntWalk.i64_in _ ⟨by omega, by omega⟩
  rw [hnn] at hPW hw
  clear hpl
  gi_wp2
  gi_loopw [3] (fun iv wr => ∃ (k : Nat) (pre : List (Fin P.length)), iv = .int .i64 ((k : Int) - 1) ∧ k ≤ n ∧ pre.map (·.val) ++ down k = down n ∧ J pre wr ∧ wr.heap[b]? = some (.cells #[pv] 46 (0, 0)) ∧ wr.ownsRow 0 77 129 pv n (P.map pc).flatten) (fun iv _ => (intOf iv + 1).toNat)
  case atStart => exact ⟨n, [], rfl, Nat.le_refl _, by simp, h0, hbW, hPW⟩
  case round =>
    obtain ⟨k, pre, rfl, hk, hpre, hJ', hbw, hPw⟩ := hrel
    cases k with
    | zero =>
      rw [show ((0 : Nat) : Int) - 1 = -1 by omega]
      gi_wp2
      refine bodyPost_end (results_none rfl _ _ _) rfl ?_
      refine ⟨⟨_, rfl⟩, .inl ⟨pre, ?_, hJ'⟩⟩
      simpa [down, hnn] using hpre
    | succ k =>
      have hpl : ∀ s ∈ P.map pc, s.length = 129 := by
        intro s hs
        obtain ⟨x, hx, rfl⟩ := List.mem_map.1 hs
        simp [pc, bc_length, hl x hx]
      have hkP : k < P.length := by omega
      have hlen : pre.length < P.length := by
        have := congrArg List.length hpre
        simp [down] at this; omega
      have hy0 := hY pre ⟨k, hkP⟩ wr hJ' hlen
      obtain ⟨g, c, hgc, hat, hnc, hcm, hrg, -⟩ := own_range hPw hpl (by rw [List.length_map, hnn]) k (by omega)
      have hgetp : (P.map pc)[k]'(by rw [List.length_map]; omega) = pc P[k] := List.getElem_map ..
      rw [hgetp] at hrg
      have hsz : (Try.prog.info? 77).map (·.size) = some (pc P[k]).length := by rw [show (pc P[k]).length = 129 by simp [pc, bc_length, hl _ (List.getElem_mem hkP)]]; kernel_rfl
      have c0 : wr.cell? ⟨b, 0, none⟩ = some (.slice (some ⟨g, 0, none⟩) n c) := by rw [← hgc]; exact (cells_of hbw).1 0
      unfold backE at hy0
      dsimp only at hy0
      generalize hpk : pc P[k] = pk at *
      obtain ⟨fn, tmps, assign, body, hy, hR⟩ := hy0
      have hk1 : ((k + 1 : Nat) : Int) - 1 = k := by omega
      rw [hk1]
      have hkn : (k : Int) < (n : Int) := by omega
      have hk0 : (0 : Int) ≤ (k : Int) := by omega
      have hwk : IntKind.i64.wrap ((k : Int) - 1) = (k : Int) - 1 := IntWalk.i64_in _ ⟨by omega, by omega⟩
      clear hY hgetp hpk c0' hw
      replace hrg := Lib.hid hrg
      replace hsz := Lib.hid hsz
      replace hPw := Lib.hid hPw
      gi_wp2_with (refine wpListIn_load_mid rfl 77 _ rfl g (k * 129) rfl pk _ hrg.out Try.underlying77 rfl hsz.out ?_)
      refine hR.mono ?_
      rintro e W3 (⟨rfl, hJ3, hk3, hk4⟩ | ⟨rfl, hJx3⟩)
      · gi_wp2
        go_roundw
        case rel =>
          refine ⟨k, pre ++ [⟨k, hkP⟩], by go_num, by omega, ?_, hJ3, hk3.trans hbw, owns_same hPw.out hk4⟩
          rw [down_succ] at hpre
          rw [List.map_append, List.append_assoc]
          exact hpre
        case measure => simp [intOf]
      · gi_wp2
        refine bodyPost_ret (results_none rfl _ _ _) rfl ?_
        refine ⟨⟨_, rfl⟩, .inr ⟨_, ?_, hJx3⟩⟩
        rw [down_succ] at hpre
        rw [List.map_append, show down P.length = down n from congrArg down hnn]
        exact ⟨down k, by rw [List.append_assoc]; exact hpre⟩
end Go.Proofs.Ytmnoldikimcafaa

namespace Go.Proofs.Ytmnoldikimcafaa
set_option maxRecDepth 100000
open Go.RowKit Go.Amb Go.Shelf
set_option linter.unusedVariables false
set_option linter.unusedSimpArgs false
theorem reverse_down (P : List (List UInt8 × Nat)) : P.reverse = (down P.length).map fun k => P.getD k ([], 0) := by
  have h : (List.range P.length).map (fun k => P.getD k ([], 0)) = P := by
    apply List.ext_getElem
    · simp
    · intro k h1 h2
      simp only [List.getElem_map, List.getElem_range, List.getD_eq_getElem?_getD, List.getElem?_eq_getElem h2, Option.getD_some]
  unfold down
  rw [List.map_reverse, h]
theorem getD_fin (P : List (List UInt8 × Nat)) (y : Fin P.length) : P.getD y.val ([], 0) = P[y.val] := by
  simp [List.getD_eq_getElem?_getD, List.getElem?_eq_getElem y.isLt]
theorem lastAt_none {P : List (List UInt8 × Nat)} {i : Nat} {xs : List (Fin P.length)} (h : xs.map (·.val) = down P.length) (hn : ∀ y ∈ xs, P[y.val].2 ≠ i) : lastAt P i = none := by
  unfold lastAt
  rw [reverse_down, ← h, List.map_map, List.find?_eq_none.2]
  · rfl
  · intro p hp
    obtain ⟨y, hy, rfl⟩ := List.mem_map.1 hp
    have := hn y hy
    simp only [Function.comp, getD_fin, decide_eq_true_eq]
    exact this
theorem lastAt_some {P : List (List UInt8 × Nat)} {i : Nat} {pre : List (Fin P.length)} {x : Fin P.length} (h : (pre ++ [x]).map (·.val) <+: down P.length) (hn : ∀ y ∈ pre, P[y.val].2 ≠ i) (hx : P[x.val].2 = i) : lastAt P i = some P[x.val].1 := by
  obtain ⟨rest, hr⟩ := h
  unfold lastAt
  rw [reverse_down, ← hr, List.map_append, List.map_map, List.map_append, List.find?_append, List.find?_append, List.find?_eq_none.2]
  · simp [getD_fin, hx]
  · intro p hp
    obtain ⟨y, hy, rfl⟩ := List.mem_map.1 hp
    have := hn y hy
    simp only [Function.comp, getD_fin, decide_eq_true_eq]
    exact this
/-- A block of its own is written whole. -/
theorem old_row {W : World} {M : Nat} {Z : Array Value} {t : TypeId} (hM : W.heap[M]? = some (.cells Z t (0, 0))) (cs : List Value) (h : Z.size = cs.length) :
    W.there M 0 cs.length ∧ Upd (fun k => k = M) W (W.setCells M 0 cs) ∧ (W.setCells M 0 cs).heap[M]? = some (.cells cs.toArray t (0, 0)) := by
  have hc := cells_of hM
  refine ⟨fun j hj => ⟨?_, hc.2 _⟩, upd_setCells _ _ _ _, ?_⟩
  · rw [hc.1, Nat.zero_add, Array.getElem?_eq_getElem (by omega)]; rfl
  · have := heap_setCells M t cs 0 W Z hM (by omega)
    rw [this, List.take_zero, List.nil_append, Nat.zero_add, List.drop_of_length_le (by simp; omega), List.append_nil]
theorem new_row (W : World) (Z : Array Value) (t : TypeId) (cs : List Value) (h : Z.size = cs.length) :
    (W.alloc (.cells Z t)).there W.heap.size 0 cs.length ∧ Upd (fun k => W.heap.size ≤ k) W ((W.alloc (.cells Z t)).setCells W.heap.size 0 cs) ∧ ((W.alloc (.cells Z t)).setCells W.heap.size 0 cs).heap[W.heap.size]? = some (.cells cs.toArray t (0, 0)) := by
  obtain ⟨h1, h2, h3⟩ := old_row (heap_alloc_new W (.cells Z t)) cs h
  exact ⟨h1, (Upd.alloc _ W _).trans h2 fun k hk h => by omega, h3⟩
theorem bytes_block {w : World} {M : Nat} {s : List UInt8} {t : TypeId} (h : w.heap[M]? = some (.cells (bc s).toArray t (0, 0))) (hs : s.length = 128) : Bytes w (.slice (some ⟨M, 0, none⟩) 128 128) s := by
  have hc := cells_of h
  refine ⟨by rw [bc_length, Nat.mul_one], _, 128, by rw [hs], by omega, by unfold maxLen; omega, .inr ⟨M, 0, rfl, fun j u hj => ?_⟩⟩
  rw [hc.1, Nat.zero_add]
  simpa using hj
end Go.Proofs.Ytmnoldikimcafaa
namespace Go.Amb
open Go.RowKit
theorem Upd.grown {S : Nat → Prop} {w W W' : World} {row : Option Nat} (h : Upd S w W) (hg : W.grownBy W' row) (hr : ∀ r, row = some r → w.heap.size ≤ r) : Upd S w W' :=
  ⟨hg.os.trans h.os, hg.tape.trans h.tape, hg.output.trans h.output, Nat.le_trans h.size hg.size, fun k hk hn => (hg.block k (Nat.lt_of_lt_of_le hk h.size) (fun e => by have := hr k e.symm; omega)).trans (h.block k hk hn)⟩
theorem heap_grown {W W' : World} {row : Option Nat} {M : Nat} {o : Obj} (h : W.heap[M]? = some o) (hg : W.grownBy W' row) (hr : some M ≠ row) : W'.heap[M]? = some o := (hg.block M (heap_lt h) hr).trans h
theorem Upd.putObj {S : Nat → Prop} {w W : World} (h : Upd S w W) {l : Nat} (hl : w.heap.size ≤ l) (o : Obj) : Upd S w (W.putObj l o) :=
  ⟨h.os, h.tape, h.output, by simpa using h.size, fun k hk hn => (World.putObj_heap_other (by omega)).trans (h.block k hk hn)⟩
theorem fill_one {size : Nat} (hp : 0 < size) (z : Array Value) (cs : List Value) (hl : cs.length = size) (hz : z.size = 1 * size) :
    Instr.fill (fun i => some (i * size, size)) z [(0, Value.agg cs.toArray)] = some cs.toArray := by
  obtain ⟨r, h1, h2, h3⟩ := Great.fill_dense hp [Value.agg cs.toArray] 0 z (fun v hv => by rw [List.mem_singleton] at hv; subst hv; simpa [Value.cells] using hl) (by simp; omega)
  simp only [List.zipIdx_cons, List.zipIdx_nil, List.map_cons, List.map_nil] at h1
  rw [h1]
  congr 1
  apply Array.ext_getElem?
  intro k
  rw [h3 k]
  simp only [List.length_cons, List.length_nil, Nat.zero_mul, Nat.zero_le, true_and, Nat.zero_add, Nat.one_mul]
  by_cases hk : k < size
  · rw [if_pos hk, Nat.div_eq_of_lt hk, Nat.mod_eq_of_lt hk]
    simp [Value.cells]
  · rw [if_neg hk, Array.getElem?_eq_none (by omega)]
    simp only [List.getElem?_toArray]
    rw [List.getElem?_eq_none (by omega)]
theorem run_build1 {P : Program} {t e : TypeId} {z : Value} {size : Nat} (ht : P.underlying t = some (.slice e)) (hinfo : (P.info? e).map (fun i => (i.zero, i.size)) = some (some z, size)) (hp : 0 < size) (hs : size ≤ 16777216) (cs : List Value) (hl : cs.length = size) (w : World) :
    (Instr.buildSlice t 1 #[(0, .agg cs.toArray)]).run P w = .ok (.slice (some ⟨w.heap.size, 0, none⟩) 1 1) (w.alloc (.cells cs.toArray e)) := by
  cases hq : P.info? e with
  | none => simp [hq] at hinfo
  | some i =>
    simp [hq] at hinfo
    obtain ⟨hz, hi⟩ := hinfo
    refine run_buildSlice w t e 1 _ _ i z ht hq hz (by rw [hi]; omega) (by rw [hi]; omega) ?_
    rw [hi]
    exact fill_one hp _ cs hl (by simp)
/-- '[]T{x}' at a step of a region that draws its order; x of many cells. -/
theorem step_build1 {P : Program} {w : World} {ops : Array Oper} {o : Oper} {a : Act} {K : Act → World → Prop} {Q : Exit → Act → World → Prop} {E : Prop} (hgd : o.guard = none) (t e : TypeId) (x : Operand) (ho : o.op = .buildSlice t 1 #[(0, x)])
    {z : Value} {size : Nat} (ht : P.underlying t = some (.slice e)) (hinfo : (P.info? e).map (fun i => (i.zero, i.size)) = some (some z, size)) (hp : 0 < size) (hs : size ≤ 16777216) (cs : List Value) (hl : cs.length = size) (hx : a.eval x = .agg cs.toArray)
    (h : K (a.put o.dst (.slice (some ⟨w.heap.size, 0, none⟩) 1 1)) ((w.alloc (.cells cs.toArray e)).drew)) :
    if Region.wanted o (yielded ops a.tmps) = true then Oper.wp P o a w.drew K Q else E := by
  have hw : Region.wanted o (yielded ops a.tmps) = true := by simp [Region.wanted, hgd]
  rw [if_pos hw]
  have hr := run_build1 ht hinfo hp hs cs hl w.drew
  unfold Oper.wp execOp
  simp only [ho, List.map_toArray, List.map_cons, List.map_nil, hx, hr, Sem.run_bind, Sem.run_pure, Result.andThen_ok]
  exact h
end Go.Amb
namespace Go.Proofs.Ytmnoldikimcafaa
open Go.RowKit Go.Amb Go.Shelf
theorem info_write : (Try.prog.info? 77).map (fun i => (i.zero, i.size)) = some (some (.agg ((Array.replicate 128 (.int .u8 0)).push (.int .i64 0))), 129) := by kernel_rfl
theorem size_sector : (Try.prog.info? 74).map (·.size) = some 128 := by kernel_rfl
theorem size_write : (Try.prog.info? 77).map (·.size) = some 129 := by kernel_rfl
theorem pc_length {p : List UInt8 × Nat} (h : p.1.length = 128) : (pc p).length = 129 := by simp [pc, bc_length, h]
theorem pc_one (p : List UInt8 × Nat) : ∀ u ∈ pc p, u.oneCell' = true := by
  intro u hu
  rcases List.mem_append.1 hu with h | h
  · exact bc_one _ u h
  · rw [List.mem_singleton] at h; subst h; rfl
end Go.Proofs.Ytmnoldikimcafaa

namespace Go.Proofs.Ytmnoldikimcafaa
open Go.RowKit Go.Amb Go.Shelf
set_option linter.unusedVariables false
set_option linter.unusedSimpArgs false
set_option maxRecDepth 100000
attribute [local go_sem] Oper.semAt_some
theorem range_upd {S : Nat → Prop} {w w' : World} {b o : Nat} {cs : List Value} (h : w.rangeAt b o cs) (hu : Upd S w w') (hn : ¬ S b) : w'.rangeAt b o cs := fun j v hv => hu.cell (h j v hv) hn
def RdI (P : List (List UInt8 × Nat)) (i M : Nat) (s : List UInt8) (w5 : World) (pre : List (Fin P.length)) (W : World) : Prop :=
  Upd (fun k => k = M) w5 W ∧ W.heap[M]? = some (.cells (bc s).toArray 74 (0, 0)) ∧ ∀ y ∈ pre, P[y.val].2 ≠ i
def RdX (P : List (List UInt8 × Nat)) (i M : Nat) (w5 : World) (c : Code) (pre : List (Fin P.length)) (W : World) : Prop :=
  c = .exit 0 ∧ Upd (fun k => k = M) w5 W ∧ ∃ pre' x, pre = pre' ++ [x] ∧ (∀ y ∈ pre', P[y.val].2 ≠ i) ∧ P[x.val].2 = i ∧ W.heap[M]? = some (.cells (bc P[x.val].1).toArray 74 (0, 0))
def RdA (P : List (List UInt8 × Nat)) (w5 : World) (f : Nat → Fin P.length → Array Value) (x : Fin P.length) (a' : Act) (W : World) : Prop :=
  ∃ B, w5.heap.size ≤ B ∧ W.heap[B]? = some (.cells (pc P[x.val]).toArray 77 (0, 0)) ∧ a' = { tmps := f B x, defers := [] }
theorem rdI_own (P : List (List UInt8 × Nat)) (i M : Nat) (s : List UInt8) (w5 : World) (hM : M < w5.heap.size) : OwnFrom w5.heap.size (RdI P i M s w5) := by
  rintro pre W W' row ⟨hu, ht, hp⟩ hg hr
  exact ⟨hu.grown hg fun r e => (hr r e).1, heap_grown ht hg (fun e => by have := (hr M e.symm).1; omega), hp⟩
theorem rdX_own (P : List (List UInt8 × Nat)) (i M : Nat) (w5 : World) (hM : M < w5.heap.size) (c : Code) : OwnFrom w5.heap.size (RdX P i M w5 c) := by
  rintro pre W W' row ⟨hc, hu, pre', x, h1, h2, h3, ht⟩ hg hr
  exact ⟨hc, hu.grown hg fun r e => (hr r e).1, pre', x, h1, h2, h3, heap_grown ht hg (fun e => by have := (hr M e.symm).1; omega)⟩
theorem rdA_own (P : List (List UInt8 × Nat)) (w5 : World) (f : Nat → Fin P.length → Array Value) (x : Fin P.length) (a' : Act) : OwnFrom w5.heap.size (fun (_ : Unit) W => RdA P w5 f x a' W) := by
  rintro - W W' row ⟨B, hB, hr, ha⟩ hg hrr
  refine ⟨B, hB, heap_grown hr hg (fun e => ?_), ha⟩
  obtain ⟨-, o, ho, hc⟩ := hrr B e.symm
  rw [hr] at ho
  injection ho with ho
  subst ho
  cases hc
/-- A part that ends as it should needs no word on how else it may end. -/
theorem wp_only {P : Program} {c : Code} {K : Act → World → Prop} {Q : Exit → Act → World → Prop} {a : Act} {w : World} (h : c.wp P (Exit.then K (fun _ _ _ => False)) a w) : c.wp P (Exit.then K Q) a w :=
  Code.wp_mono (fun e a w h => by cases e <;> first | exact h | exact h.elim) h
theorem lBackward (pv : Value) (w : World) (hpv : ∃ a n c, pv = .slice a n c) : Calls Try.prog 63 #[pv] w
    (fun en w' => en = .returned (.func (.func 70) #[] #[.pointer (some ⟨w.heap.size, 0, none⟩)]) ∧ w' = w.alloc (.cells #[pv] 46)) := by
  obtain ⟨a, n, c, rfl⟩ := hpv
  go_enter Try.func63, Try.ntmps63
  go_wp2_with fail
  go_ret
  exact ⟨rfl, rfl⟩
set_option maxHeartbeats 2000000 in
theorem lReadD {w : World} {D : Nat} {F : Nat → Prop} {d : Dk} (h : DiskAt w D F d) (hn : d.P.length ≤ 1000000) (i : Nat) (hd : d.dd = false) (hi : i < d.K.length) :
    Calls Try.prog 56 #[.pointer (some ⟨D, 0, none⟩), .int .i64 (i : Int)] w (fun en w' => ∃ v, en = .returned (.tuple #[v, .int .i64 0]) ∧ Bytes w' v (d.has i) ∧ Upd Non w w' ∧ ∀ k, At v k → w.heap.size ≤ k) := by
  have hw0 : d.within (i : Int) = 0 := by unfold Dk.within; rw [hd, if_neg (by simp), if_neg (by omega)]
  have cW := fun w' (hu : Upd Non w w') => lWithin (h.non hu) (i : Int)
  rw [hw0] at cW
  obtain ⟨g, ck, pv, hX, hK, hP, h1, h2, h3, hF⟩ := h.ex
  have hok := Lib.hid h.ok
  obtain ⟨R, hR⟩ : ∃ R : Ending → World → Prop, R = (fun en w' => ∃ v, en = .returned (.tuple #[v, .int .i64 0]) ∧ Bytes w' v (d.has i) ∧ Upd Non w w' ∧ ∀ k, At v k → w.heap.size ≤ k) := ⟨_, rfl⟩
  rw [← hR]
  replace hR := Lib.hid hR
  replace cW := Lib.hid cW
  replace hX := Lib.hid hX
  replace hK := Lib.hid hK
  replace hP := Lib.hid hP
  replace hF := Lib.hid hF
  clear h
  refine (callsIn_wide (n := 5)).1 (callsIn_of_wp_marks Try.func56 rfl trivial (wpIn_wide.2 ?_) rfl)
  simp only [Try.ntmps56, List.size_toArray, List.length_cons, List.length_nil, Nat.reduceAdd, Nat.reduceSub, Array.replicate_succ, Array.replicate_zero, List.push_toArray, List.append_toArray, List.nil_append, List.cons_append]
  go_wp2_with fail
  refine (cW.out _ (Upd.alloc Non w _)).mono ?_
  rintro en w1 ⟨rfl, hu1⟩
  have hc := cells_of (hu1.heap (heap_alloc_new w (.cells #[.int .i64 (i : Int)] 3)) fun h => h)
  have c3 : w1.cell? ⟨w.heap.size, 0, none⟩ = some (.int .i64 (i : Int)) := hc.1 0
  have hU1 := (Upd.alloc Non w (.cells #[.int .i64 (i : Int)] 3)).trans hu1 fun _ _ h => h
  have hX1 := hU1.heap hX.out fun h => h
  have x0 : w1.cell? ⟨D, 0, none⟩ = some (.slice (some ⟨g, 0, none⟩) d.K.length ck) := (cells_of hX1).1 0
  have hDl := heap_lt hX1
  have hil : w.heap.size < w1.heap.size := by have := hu1.size; simp at this; omega
  obtain ⟨g', ck', hv', -, hc1, hc2, hrg, -⟩ := own_range (hU1.owns hK.out fun _ _ h => h) hok.out.kl (by rw [List.length_map]) i hi
  injection hv' with e1 e2 e3
  injection e1 with e1
  injection e1 with e1
  subst e1
  have hgl : g < w1.heap.size := own_lt (hU1.owns hK.out fun _ _ h => h) rfl
  have hsl : d.K[i].length = 128 := hok.out.k _ (List.getElem_mem hi)
  rw [List.getElem_map] at hrg
  obtain ⟨s, hs⟩ : ∃ s, d.K[i] = s := ⟨_, rfl⟩
  rw [hs] at hrg hsl
  have hsz : (Try.prog.info? 74).map (·.size) = some (bc s).length := by rw [bc_length, hsl]; kernel_rfl
  obtain ⟨Z, hZ⟩ : ∃ Z, Array.replicate 128 (Value.int .u8 0) = Z := ⟨_, rfl⟩
  have hz := (zero_of_info (P := Try.prog) (t := 74) (v := .agg Z) (n := 128) (by rw [← hZ]; kernel_rfl)).1
  have hZs : Z.size = 128 := by rw [← hZ]; simp
  have hiK : (i : Int) < (d.K.length : Int) := by omega
  obtain ⟨n, hnK⟩ : ∃ n, d.K.length = n := ⟨_, rfl⟩
  rw [hnK] at x0 hiK
  have hsz' : (Try.prog.info? 74).map (·.size) = some (bc s).toArray.size := by rw [List.size_toArray]; exact hsz
  have h1c : (bc s).toArray.all (·.oneCell') = true := all_oneCell_toArray (bc_one s)
  have hth : World.there ((w1.alloc (.cells Z 74)).drew) w1.heap.size 0 (bc s).toArray.size := by
    rw [World.there_drew]
    have hc := cells_of (heap_alloc_new w1 (.cells Z 74))
    intro j hj
    rw [List.size_toArray, bc_length, hsl] at hj
    refine ⟨?_, hc.2 _⟩
    rw [hc.1, Array.getElem?_eq_getElem (by omega)]; rfl
  have hUst : Upd (fun k => w1.heap.size ≤ k) w1 (((w1.alloc (.cells Z 74)).drew).setCells w1.heap.size 0 (bc s).toArray.toList) :=
    (((Upd.refl (fun k => w1.heap.size ≤ k) w1).then_alloc _).then_drew).trans (upd_setCells _ _ _ _) fun k hk h => by omega
  have hT4 : (((w1.alloc (.cells Z 74)).drew).setCells w1.heap.size 0 (bc s).toArray.toList).heap[w1.heap.size]? = some (.cells (bc s).toArray 74 (0, 0)) := by
    have := heap_setCells w1.heap.size 74 (bc s) 0 ((w1.alloc (.cells Z 74)).drew) Z (heap_alloc_new w1 (.cells Z 74)) (by rw [bc_length]; omega)
    rw [this, List.take_zero, List.nil_append, Nat.zero_add, bc_length, List.drop_of_length_le (by simp; omega), List.append_nil]
  replace hrg := Lib.hid hrg
  replace hsz := Lib.hid hsz
  replace hX1 := Lib.hid hX1
  clear hc hu1
  simp only []
  go_wp2_with fail
  refine wp_only ?_
  refine wp_region_held_drew (S := fun w' => Upd (fun k => w1.heap.size ≤ k) w1 w') (by kernel_rfl) (by exact Upd.drew _ _) (fun hHeld => ?_)
  (refine wpAnyH_take (i := 0) (oi := ?oi_q1) (v := ?v_q1) ?ho_q1 ?hs_q1 ?hf_q1 ?hr_q1 ?hQ_q1 ?hy_q1 ?hS_q1 ?rest_q1; (case hr_q1 => kernel_rfl); (case hf_q1 => kernel_rfl); (case hs_q1 => kernel_rfl); (case ho_q1 => (simp only [List.getElem?_toArray, List.getElem?_cons_succ, List.getElem?_cons_zero]; rfl)); (case hS_q1 => assumption); (case hQ_q1 => exact fun _ _ _ h => h); (case hy_q1 => (refine Or.inl ⟨by rfl, ?_⟩; (intro w hSw; have x0' := hSw.cell x0 (by dsimp only; omega); have c3' := hSw.cell c3 (by dsimp only; omega); go_simp) <;> with_reducible rfl)); (try simp only [Act.put, List.setIfInBounds_toArray, List.set_cons_zero, List.set_cons_succ]))
  (refine wpAnyH_take (i := 1) (oi := ?oi_q2) (v := ?v_q2) ?ho_q2 ?hs_q2 ?hf_q2 ?hr_q2 ?hQ_q2 ?hy_q2 ?hS_q2 ?rest_q2; (case hr_q2 => kernel_rfl); (case hf_q2 => kernel_rfl); (case hs_q2 => kernel_rfl); (case ho_q2 => (simp only [List.getElem?_toArray, List.getElem?_cons_succ, List.getElem?_cons_zero]; rfl)); (case hS_q2 => assumption); (case hQ_q2 => exact fun _ _ _ h => h); (case hy_q2 => (refine Or.inl ⟨by rfl, ?_⟩; (intro w hSw; have x0' := hSw.cell x0 (by dsimp only; omega); have c3' := hSw.cell c3 (by dsimp only; omega); go_simp) <;> with_reducible rfl)); (try simp only [Act.put, List.setIfInBounds_toArray, List.set_cons_zero, List.set_cons_succ]))
  (refine wpAnyH_take (i := 2) (oi := ?oi_q3) (v := ?v_q3) ?ho_q3 ?hs_q3 ?hf_q3 ?hr_q3 ?hQ_q3 ?hy_q3 ?hS_q3 ?rest_q3; (case hr_q3 => kernel_rfl); (case hf_q3 => kernel_rfl); (case hs_q3 => kernel_rfl); (case ho_q3 => (simp only [List.getElem?_toArray, List.getElem?_cons_succ, List.getElem?_cons_zero]; rfl)); (case hS_q3 => assumption); (case hQ_q3 => exact fun _ _ _ h => h); (case hy_q3 => (refine Or.inl ⟨by rfl, ?_⟩; (intro w hSw; have x0' := hSw.cell x0 (by dsimp only; omega); have c3' := hSw.cell c3 (by dsimp only; omega); go_simp) <;> with_reducible rfl)); (try simp only [Act.put, List.setIfInBounds_toArray, List.set_cons_zero, List.set_cons_succ]))
  (refine wpAnyH_take (i := 3) (oi := ?oi_q4) (v := ?v_q4) ?ho_q4 ?hs_q4 ?hf_q4 ?hr_q4 ?hQ_q4 ?hy_q4 ?hS_q4 ?rest_q4; (case hr_q4 => kernel_rfl); (case hf_q4 => kernel_rfl); (case hs_q4 => kernel_rfl); (case ho_q4 => (simp only [List.getElem?_toArray, List.getElem?_cons_succ, List.getElem?_cons_zero]; rfl)); (case hS_q4 => assumption); (case hQ_q4 => exact fun _ _ _ h => h); (case hy_q4 => (refine Or.inl ⟨by rfl, ?_⟩; (intro w hSw; have x0' := hSw.cell x0 (by dsimp only; omega); have c3' := hSw.cell c3 (by dsimp only; omega); go_simp) <;> with_reducible rfl)); (try simp only [Act.put, List.setIfInBounds_toArray, List.set_cons_zero, List.set_cons_succ]))
  (refine wpAnyH_take (i := 4) (oi := ?oi_q5) (v := ?v_q5) ?ho_q5 ?hs_q5 ?hf_q5 ?hr_q5 ?hQ_q5 ?hy_q5 ?hS_q5 ?rest_q5; (case hr_q5 => kernel_rfl); (case hf_q5 => kernel_rfl); (case hs_q5 => kernel_rfl); (case ho_q5 => (simp only [List.getElem?_toArray, List.getElem?_cons_succ, List.getElem?_cons_zero]; rfl)); (case hS_q5 => assumption); (case hQ_q5 => exact fun _ _ _ h => h); (case hy_q5 => (refine Or.inl ⟨by rfl, ?_⟩; (intro w hSw; have x0' := hSw.cell x0 (by dsimp only; omega); have c3' := hSw.cell c3 (by dsimp only; omega); go_simp) <;> with_reducible rfl)); (try simp only [Act.put, List.setIfInBounds_toArray, List.set_cons_zero, List.set_cons_succ]))
  (refine wpAnyH_take (i := 5) (oi := ?oi_q6) (v := ?v_q6) ?ho_q6 ?hs_q6 ?hf_q6 ?hr_q6 ?hQ_q6 ?hy_q6 ?hS_q6 ?rest_q6; (case hr_q6 => kernel_rfl); (case hf_q6 => kernel_rfl); (case hs_q6 => kernel_rfl); (case ho_q6 => (simp only [List.getElem?_toArray, List.getElem?_cons_succ, List.getElem?_cons_zero]; rfl)); (case hS_q6 => assumption); (case hQ_q6 => exact fun _ _ _ h => h); (case hy_q6 => (refine Or.inl ⟨by rfl, ?_⟩; (intro w hSw; have x0' := hSw.cell x0 (by dsimp only; omega); have c3' := hSw.cell c3 (by dsimp only; omega); go_simp) <;> with_reducible rfl)); (try simp only [Act.put, List.setIfInBounds_toArray, List.set_cons_zero, List.set_cons_succ]))
  (refine wpAnyH_take (i := 6) (oi := ?oi_q7) (v := ?v_q7) ?ho_q7 ?hs_q7 ?hf_q7 ?hr_q7 ?hQ_q7 ?hy_q7 ?hS_q7 ?rest_q7; (case hr_q7 => kernel_rfl); (case hf_q7 => kernel_rfl); (case hs_q7 => kernel_rfl); (case ho_q7 => (simp only [List.getElem?_toArray, List.getElem?_cons_succ, List.getElem?_cons_zero]; rfl)); (case hS_q7 => assumption); (case hQ_q7 => exact fun _ _ _ h => h); (case hy_q7 => (refine yieldsIf_load_mid ?yw 74 ?yx ?yo g (i * 128) ?ye (bc s) ?yd ?yS ?yu ?yr hsz.out; (case yo => exact rfl); (case yw => rfl); (case ye => rfl); (case yS => exact fun w hSw => range_upd hrg.out hSw (by omega)); (case yu => exact Try.underlying74); (case yr => rfl))); (try simp only [Act.put, List.setIfInBounds_toArray, List.set_cons_zero, List.set_cons_succ]))
  refine wpAnyH_ready (rs := [7]) (by kernel_rfl) (by simp) ?_
  refine (AllReadyH.cons (o := ?ooq8_0) ?hoq8_0 ?hsq8_0 AllReadyH.nil)
  case hoq8_0 => (simp only [List.getElem?_toArray, List.getElem?_cons_succ, List.getElem?_cons_zero]; rfl)
  case hsq8_0 =>
    intro K hK
    go_simp
    try go_wp2_with fail
    refine hK.out _ _ (by exact ((Upd.refl _ w1).then_alloc _).then_drew) (fun hHeld => ?_)
    clear hK K
    try simp only [Act.put, List.setIfInBounds_toArray, List.set_cons_zero, List.set_cons_succ]
    refine wpAnyH_ready (rs := [8]) (by kernel_rfl) (by simp) ?_
    refine (AllReadyH.cons (o := ?ooq9_0) ?hoq9_0 ?hsq9_0 AllReadyH.nil)
    case hoq9_0 => (simp only [List.getElem?_toArray, List.getElem?_cons_succ, List.getElem?_cons_zero]; rfl)
    case hsq9_0 =>
      intro K hK
      rw [if_pos (by rfl)]
      refine wp_store_mid 74 _ _ rfl w1.heap.size 0 (bc s).toArray rfl rfl hth hsz' h1c ?_
      refine hK.out _ _ (by exact hUst) (fun hHeld => ?_)
      clear hK K
      try simp only [Act.put, List.setIfInBounds_toArray, List.set_cons_zero, List.set_cons_succ]
      refine wpAnyH_done (by kernel_rfl) ?_ _
      clear hHeld
      obtain ⟨w4, hw4⟩ : ∃ w4, (((w1.alloc (.cells Z 74)).drew).setCells w1.heap.size 0 (bc s).toArray.toList) = w4 := ⟨_, rfl⟩
      rw [hw4] at hUst hT4 ⊢
      clear hth h1c hw4
      have hU4 := hU1.trans hUst fun k hk h => by omega
      have hX4 := hUst.heap hX1.out (by omega)
      have c34 : w4.cell? ⟨w.heap.size, 0, none⟩ = some (.int .i64 (i : Int)) := hUst.cell c3 (by dsimp only; omega)
      have hP4 := hU4.owns hP.out fun _ _ h => h
      have x1 : w4.cell? ⟨D, 1, none⟩ = some pv := (cells_of hX4).1 1
      obtain ⟨M, hM⟩ : ∃ M, w1.heap.size = M := ⟨_, rfl⟩
      rw [hM] at hT4 hil hDl hgl ⊢
      have hpvM : ∀ k, At pv k → k < M := fun k hk => by have := own_lt (hU1.owns hP.out fun _ _ h => h) hk; omega
      have hMl := heap_lt hT4
      have hUst' := hUst.size
      clear hUst c3 x0 hX4 hz
      replace hP4 := Lib.hid hP4
      have hpvf : ∃ a n c, pv = .slice a n c := by obtain ⟨_, a, c, h, -⟩ := has_of_owns hP4.out; exact ⟨a, _, c, h⟩
      have cB := Lib.hid (fun w => lBackward pv w hpvf)
      go_wp2_with fail
      refine (cB.out _).mono ?_
      rintro en w5 ⟨rfl, rfl⟩
      go_wp2_with fail
      obtain ⟨b, hb⟩ : ∃ b, w4.heap.size = b := ⟨_, rfl⟩
      obtain ⟨w5, hw5⟩ : ∃ w5, w4.alloc (.cells #[pv] 46) = w5 := ⟨_, rfl⟩
      have hA5 : Upd Non w4 w5 := by rw [← hw5]; exact Upd.alloc _ _ _
      have hbx : w5.heap[b]? = some (.cells #[pv] 46 (0, 0)) := by rw [← hw5, ← hb]; exact heap_alloc_new _ _
      rw [hw5, hb]
      have hl5 := heap_lt hbx
      have hP5 := Lib.hid (hA5.owns hP4.out fun _ _ h => h)
      have hT5 := Lib.hid (hA5.heap hT4 fun h => h)
      have c35 := hA5.cell c34 fun h => h
      have hU5 := hU4.trans hA5 fun _ _ h => h
      clear hw5 hA5 hT4 c34 hU4 x1
      have hbM : b ≠ M := by omega
      have hpv5 : ∀ k, At pv k → k < w5.heap.size := fun k hk => by have := hpvM k hk; omega
      refine (wpIn_wide (n := 5)).1 (wpIn_rangeFunc_ownH rfl (by decide) (gf := 70) (lb := #[.pointer (some ⟨b, 0, none⟩)]) rfl trivial (enters_of Try.func70 (by kernel_rfl) rfl)
        (iter_back d.P (fun p hp => (hok.out.p p hp).1) hn b pv w5 hbx hP5.out) (fun h k => ⟨k.1.trans h.1, fun j hj => (k.2 j hj).trans (h.2 j hj)⟩) ?keeps (Below.refl _ _) (fun _ => rfl)
        (RdI d.P i M s w5) (RdX d.P i M w5) (rdI_own _ _ _ _ _ (by omega)) (rdX_own _ _ _ _ (by omega)) ⟨Upd.refl _ _, hT5.out, fun y hy => by cases hy⟩
        (RdA d.P w5 fun B x => #[.pointer (some ⟨D, 0, none⟩), .int .i64 (i : Int), undef, .pointer (some ⟨w.heap.size, 0, none⟩), .slice none 0 0, .int .i64 0, .int .i64 0, .pointer (some ⟨M, 0, none⟩), undef, .pointer (some ⟨B, 0, none⟩), .pointer (some ⟨D, 0, none⟩), .int .i64 (i : Int), .int .i64 0, .int .i64 0, .bool false, undef, .pointer (some ⟨D, 0, none⟩), .pointer (some ⟨D, 0, none⟩), .pointer (some ⟨D, 0, none⟩), .slice (some ⟨g, 0, none⟩) n ck', .int .i64 (i : Int), .pointer (some ⟨g, i * 128, none⟩), .agg (bc s).toArray, .pointer (some ⟨D, 0, none⟩), .pointer (some ⟨D, 0, none⟩), .pointer (some ⟨D, 1, none⟩), pv, .func (.func 70) #[] #[.pointer (some ⟨b, 0, none⟩)], .int .i64 (x.val : Int), .agg (pc d.P[x.val]).toArray, undef, undef, undef, undef, undef, undef, undef]) (rdA_own _ _ _) ?assign ?body ?done ?stop)
      case keeps =>
        intro W l o o' hl _ _ _
        exact ⟨World.putObj_heap_other (by omega), fun k hk => World.putObj_heap_other (by have := hpv5 k hk; omega)⟩
      case assign =>
        intro l pre x W K hi hK
        obtain ⟨Z9, hZ9⟩ : ∃ Z9, (Array.replicate 128 (Value.int .u8 0)).push (.int .i64 0) = Z9 := ⟨_, rfl⟩
        have hz9 := (zero_of_info (P := Try.prog) (t := 77) (v := .agg Z9) (n := 129) (by rw [← hZ9]; exact info_write)).1
        have hZ9s : Z9.size = 129 := by rw [← hZ9]; simp
        have hpl := pc_length (hok.out.p _ (List.getElem_mem x.isLt)).1
        have h9c : (pc d.P[x.val]).toArray.all (·.oneCell') = true := all_oneCell_toArray (pc_one _)
        obtain ⟨hth9, hua, hrw⟩ := new_row W Z9 77 (pc d.P[x.val]) (by omega)
        have hsz9 : (Try.prog.info? 77).map (·.size) = some (pc d.P[x.val]).toArray.size := by rw [List.size_toArray, hpl]; exact size_write
        have hth9' : (W.alloc (.cells Z9 77)).there W.heap.size 0 (pc d.P[x.val]).toArray.size := by rw [List.size_toArray]; exact hth9
        have hWl : w5.heap.size ≤ W.heap.size := hi.1.size
        unfold backE
        obtain ⟨px, hpx⟩ : ∃ px, pc d.P[x.val] = px := ⟨_, rfl⟩
        simp only [hpx] at h9c hth9 hua hrw hsz9 hth9' ⊢
        clear hZ9 hpl
        replace hrw := Lib.hid hrw
        replace hua := Lib.hid hua
        gi_wp2_with (refine wpListIn_store_mid rfl 77 _ _ rfl W.heap.size 0 px.toArray rfl rfl hth9' hsz9 h9c ?_)
        subst hpx
        have hua' := hua.out
        exact hK _ _ ⟨hua'.size, fun k o hB hk ho => (hua'.block k (heap_lt hk) (by have := heap_lt hk; omega)).trans hk⟩ ⟨hua'.block b (by omega) (by omega), fun k hk => hua'.block k (by have := hpv5 k hk; omega) (by have := hpv5 k hk; omega)⟩
          ⟨hi.1.trans hua' (fun k hk h => by omega), hua'.heap hi.2.1 (by omega), hi.2.2⟩ ⟨W.heap.size, hWl, hrw.out, rfl⟩
      case body =>
        rintro l pre x a' W hl ⟨r, hr⟩ ⟨hu, ht, hp⟩ ⟨B, hB, hrow, rfl⟩ hlen
        have hpl : d.P[x.val].1.length = 128 := (hok.out.p _ (List.getElem_mem x.isLt)).1
        have hcB := cells_of hrow
        have cB : W.cell? ⟨B, 128, none⟩ = some (.int .i64 (d.P[x.val].2 : Int)) := by
          rw [hcB.1 128]
          simp [pc, bc_length, hpl]
        have hrgB : W.rangeAt B 0 (bc d.P[x.val].1) := fun j v hv => by
          rw [Nat.zero_add, hcB.1 j]
          have hj := (List.getElem?_eq_some_iff.1 hv).1
          simp only [List.getElem?_toArray, pc]
          rw [List.getElem?_append_left hj]; exact hv
        have c3W := hu.cell c35 (by dsimp only; omega)
        have hsB : (Try.prog.info? 74).map (·.size) = some (bc d.P[x.val].1).length := by rw [bc_length, hpl]; exact size_sector
        obtain ⟨hthM, huM, hrM⟩ := old_row ht (bc d.P[x.val].1) (by rw [List.size_toArray, bc_length, bc_length, hsl, hpl])
        have h1M : (bc d.P[x.val].1).toArray.all (·.oneCell') = true := all_oneCell_toArray (bc_one _)
        by_cases hx : d.P[x.val].2 = i
        · rw [hx] at cB
          dsimp only
          obtain ⟨t1, ht1⟩ : ∃ t1, d.P[x.val].1 = t1 := ⟨_, rfl⟩
          simp only [ht1] at hrgB hsB hthM huM hrM h1M
          have hszM : (Try.prog.info? 74).map (·.size) = some (bc t1).toArray.size := by rw [List.size_toArray]; exact hsB
          have hthM' : W.there M 0 (bc t1).toArray.size := by rw [List.size_toArray]; exact hthM
          replace hrow := Lib.hid hrow
          replace hrM := Lib.hid hrM
          replace huM := Lib.hid huM
          replace ht := Lib.hid ht
          clear hcB hthM
          gi_wp2_with (first | refine wpListIn_load_mid rfl 74 _ rfl B 0 rfl (bc t1) _ hrgB Try.underlying74 rfl hsB ?_ | refine wpListIn_store_mid rfl 74 _ _ rfl M 0 (bc t1).toArray rfl rfl hthM' hszM h1M ?_)
          subst ht1
          have huM' := huM.out
          exact ⟨⟨huM'.size, fun k o hB hk ho => (huM'.block k (heap_lt hk) (by omega)).trans hk⟩, rfl, hu.trans huM' (fun k hk h => h), pre, x, rfl, hp, hx, hrM.out⟩
        · dsimp only
          obtain ⟨p2, hp2⟩ : ∃ p2, d.P[x.val].2 = p2 := ⟨_, rfl⟩
          rw [hp2] at cB hx
          have hx1 : ((p2 : Int) = (i : Int)) = False := eq_false (by omega)
          have hx2 : (p2 = i) = False := eq_false hx
          have hx3 : ((p2 : Int) == (i : Int)) = false := by simp; omega
          clear hcB hthM hrow hrM huM
          gi_wp2
          exact ⟨KeepsFrom.refl _ _, ⟨rfl, fun _ _ => rfl⟩, hu, ht, fun y hy => by
            rcases List.mem_append.1 hy with h | h
            · exact hp y h
            · rw [List.mem_singleton] at h; subst h; rw [hp2]; exact hx⟩
      case done =>
        rintro D' xs W hD hS ⟨hu, ht, hp⟩ hKd
        go_wp2_with fail
        have hT7 : (W.putObj D' (.deferred none)).heap[M]? = some (.cells (bc s).toArray 74 (0, 0)) := (World.putObj_heap_other (by omega)).trans ht
        have hU7 : Upd Non w (W.putObj D' (.deferred none)) := (hU5.trans hu fun k hk h => by omega).putObj (by omega) _
        refine ⟨by simp, .inl ⟨_, _, rfl, run_takeDeferred hKd, ?_⟩⟩
        refine ⟨.tuple #[.slice (some ⟨M, 0, none⟩) 128 128, .int .i64 0], by simp [results, Try.results56, go_sem]; try rfl, ?_⟩
        rw [hR.out]
        refine ⟨_, rfl, ?_, hU7, fun k hk => by simp [At, Value.ownBlock] at hk; omega⟩
        have hh : d.has i = s := by unfold Dk.has; rw [lastAt_none hS hp]; simp [List.getD_eq_getElem?_getD, hi, hs]
        rw [hh]
        exact bytes_block hT7 hsl
      case stop =>
        rintro D' c pre W hD hSp ⟨rfl, hu, pre', x, rfl, hne, hx, ht⟩ hKd
        have hh : d.has i = d.P[x.val].1 := by unfold Dk.has; rw [lastAt_some hSp hne hx]; rfl
        have hpl : d.P[x.val].1.length = 128 := (hok.out.p _ (List.getElem_mem x.isLt)).1
        refine (wpIn_wide (n := 5)).2 ?_
        rw [← hh] at ht hpl
        go_wp2_with fail
        have hT7 : (W.putObj D' (.deferred none)).heap[M]? = some (.cells (bc (d.has i)).toArray 74 (0, 0)) := (World.putObj_heap_other (by omega)).trans ht
        have hU7 : Upd Non w (W.putObj D' (.deferred none)) := (hU5.trans hu fun k hk h => by omega).putObj (by omega) _
        refine ⟨by simp, .inl ⟨_, _, rfl, run_takeDeferred hKd, ?_⟩⟩
        refine ⟨.tuple #[.slice (some ⟨M, 0, none⟩) 128 128, .int .i64 0], by simp [results, Try.results56, go_sem]; try rfl, ?_⟩
        rw [hR.out]
        refine ⟨_, rfl, ?_, hU7, fun k hk => by simp [At, Value.ownBlock] at hk; omega⟩
        exact bytes_block hT7 hpl
end Go.Proofs.Ytmnoldikimcafaa
