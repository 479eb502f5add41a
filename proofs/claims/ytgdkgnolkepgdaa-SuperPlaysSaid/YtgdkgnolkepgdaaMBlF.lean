/- slices.Backward over pending writes. -/
import Derived.Test.YtgdkgnolkepgdaaMBlE
import Derived.RangeFuncNested
import Derived.RangeFuncBound
import Derived.RangeFuncCalls
import Derived.RangeFuncLeaves
import Derived.Shelf.Abstract
import Derived.Shelf.RegionOpen
import Derived.WalkKit
import Derived.OwnWalkIn
import Derived.TacticsInMore
import Derived.WalkSmall
import Derived.LoopNIn
import Derived.LoopIn
namespace Go.Proofs.Ytgdkgnolkepgdaa
open Go.RowKit Go.Amb Go.Shelf
set_option linter.unusedVariables false
set_option linter.unusedSimpArgs false
set_option maxRecDepth 100000
attribute [local go_sem] Oper.semAt_some
/-- The indexes from the last one down. -/
def down (n : Nat) : List Nat := (List.range n).reverse
def backE (P : List (List UInt8 × Nat)) (x : Fin P.length) : Array Value := #[.int .i64 (x.val : Int), .agg (pc P[x.val]).toArray]
/-- What a round keeps: the box, the row. -/
def BackK (b : Nat) (pv : Value) (W W' : World) : Prop := W'.heap[b]? = W.heap[b]? ∧ ∀ k, At pv k → W'.heap[k]? = W.heap[k]?
theorem owns_same {w w' : World} {base : Nat} {e : TypeId} {m : Nat} {v : Value} {n : Nat} {xs : List Value} (h : w.ownsRow base e m v n xs) (hs : ∀ k, At v k → w'.heap[k]? = w.heap[k]?) : w'.ownsRow base e m v n xs := by
  refine ⟨h.1, ?_⟩
  rcases h.2 with hv | ⟨g, cap, cur, rfl, hb, hgg, rest⟩
  · exact .inl hv
  · exact .inr ⟨g, cap, cur, rfl, hb, (hs g rfl).trans hgg, rest⟩
theorem down_succ (n : Nat) : down (n + 1) = n :: down n := by unfold down; rw [List.range_succ, List.reverse_append]; rfl
set_option maxHeartbeats 1000000 in
theorem iter_back (P : List (List UInt8 × Nat)) (hl : ∀ p ∈ P, p.1.length = 128) (hn : P.length ≤ 1000000) (b : Nat) (pv : Value) (w0 : World) (hb : w0.heap[b]? = some (.cells #[pv] 56 (0, 0)))
    (hP : w0.ownsRow 0 101 129 pv P.length (P.map pc).flatten) :
    SeqStopsK Fence.wide 4 Try.prog 70 #[.pointer (some ⟨b, 0, none⟩)] (backE P) (BackK b pv) (fun xs => xs.map (·.val) = down P.length) (fun xs => xs.map (·.val) <+: down P.length) P.length w0 := by
  intro l J Jx W hW hJ hJx hY h0
  have hbW := (hW.block b (heap_lt hb)).trans hb
  have hPW : W.ownsRow 0 101 129 pv P.length (P.map pc).flatten := owns_same hP fun k hk => hW.block k (own_lt hP hk)
  have hpl : ∀ s ∈ P.map pc, s.length = 129 := by
    intro s hs
    obtain ⟨x, hx, rfl⟩ := List.mem_map.1 hs
    simp [pc, bc_length, hl x hx]
  obtain ⟨n, hnn⟩ : ∃ n, P.length = n := ⟨_, rfl⟩
  obtain ⟨_, pa, pcap, hpv, hpc1, hpc2, -⟩ := has_of_owns hPW
  have c0 := (cells_of hbW).1 0
  rw [hpv] at c0
  have c0' : W.cell? ⟨b, 0, none⟩ = some (.slice pa P.length pcap) := c0
  clear c0
  refine callsIn_of_wp Try.func70 rfl trivial ?_ rfl
  simp only [Try.ntmps70, List.size_toArray, List.length_cons, List.length_nil, Nat.reduceAdd, Nat.reduceSub, Array.replicate_succ, Array.replicate_zero, List.push_toArray, List.append_toArray, List.nil_append, List.cons_append]
  have hw : IntKind.i64.wrap ((P.length : Int) - 1) = (P.length : Int) - 1 := IntWalk.i64_in _ ⟨by omega, by omega⟩
  rw [hnn] at hPW hw
  clear hpl
  gi_wp2
  gi_loopw [3] (fun iv wr => ∃ (k : Nat) (pre : List (Fin P.length)), iv = .int .i64 ((k : Int) - 1) ∧ k ≤ n ∧ pre.map (·.val) ++ down k = down n ∧ J pre wr ∧ wr.heap[b]? = some (.cells #[pv] 56 (0, 0)) ∧ wr.ownsRow 0 101 129 pv n (P.map pc).flatten) (fun iv _ => (intOf iv + 1).toNat)
  case atStart => exact ⟨n, [], rfl, Nat.le_refl _, by simp, h0, hbW, hPW⟩
  case round =>
    obtain ⟨k, pre, rfl, hk, hpre, hJ', hbw, hPw⟩ := hrel
    cases k with
    | zero =>
      rw [show ((0 : Nat) : Int) - 1 = -1 by omega]
      gi_wp2
      refine bodyPost_end (results_none rfl _ _ _) rfl ?_
      refine ⟨⟨_, rfl⟩, .inl ⟨pre, ?_, hJ'⟩⟩
      simpa [down, hnn] using hpre
    | succ k =>
      have hpl : ∀ s ∈ P.map pc, s.length = 129 := by
        intro s hs
        obtain ⟨x, hx, rfl⟩ := List.mem_map.1 hs
        simp [pc, bc_length, hl x hx]
      have hkP : k < P.length := by omega
      have hlen : pre.length < P.length := by
        have := congrArg List.length hpre
        simp [down] at this; omega
      have hy0 := hY pre ⟨k, hkP⟩ wr hJ' hlen
      obtain ⟨g, c, hgc, hat, hnc, hcm, hrg, -⟩ := own_range hPw hpl (by rw [List.length_map, hnn]) k (by omega)
      have hgetp : (P.map pc)[k]'(by rw [List.length_map]; omega) = pc P[k] := List.getElem_map ..
      rw [hgetp] at hrg
      have hsz : (Try.prog.info? 101).map (·.size) = some (pc P[k]).length := by rw [show (pc P[k]).length = 129 by simp [pc, bc_length, hl _ (List.getElem_mem hkP)]]; kernel_rfl
      have c0 : wr.cell? ⟨b, 0, none⟩ = some (.slice (some ⟨g, 0, none⟩) n c) := by rw [← hgc]; exact (cells_of hbw).1 0
      unfold backE at hy0
      dsimp only at hy0
      generalize hpk : pc P[k] = pk at *
      obtain ⟨fn, tmps, assign, body, hy, hR⟩ := hy0
      have hk1 : ((k + 1 : Nat) : Int) - 1 = k := by omega
      rw [hk1]
      have hkn : (k : Int) < (n : Int) := by omega
      have hk0 : (0 : Int) ≤ (k : Int) := by omega
      have hwk : IntKind.i64.wrap ((k : Int) - 1) = (k : Int) - 1 := IntWalk.i64_in _ ⟨by omega, by omega⟩
      clear hY hgetp hpk c0' hw
      replace hrg := Lib.hid hrg
      replace hsz := Lib.hid hsz
      replace hPw := Lib.hid hPw
      gi_wp2_with (refine wpListIn_load_mid rfl 101 _ rfl g (k * 129) rfl pk _ hrg.out Try.underlying101 rfl hsz.out ?_)
      refine hR.mono ?_
      rintro e W3 (⟨rfl, hJ3, hk3, hk4⟩ | ⟨rfl, hJx3⟩)
      · gi_wp2
        go_roundw
        case rel =>
          refine ⟨k, pre ++ [⟨k, hkP⟩], by go_num, by omega, ?_, hJ3, hk3.trans hbw, owns_same hPw.out hk4⟩
          rw [down_succ] at hpre
          rw [List.map_append, List.append_assoc]
          exact hpre
        case measure => simp [intOf]
      · gi_wp2
        refine bodyPost_ret (results_none rfl _ _ _) rfl ?_
        refine ⟨⟨_, rfl⟩, .inr ⟨_, ?_, hJx3⟩⟩
        rw [down_succ] at hpre
        rw [List.map_append, show down P.length = down n from congrArg down hnn]
        exact ⟨down k, by rw [List.append_assoc]; exact hpre⟩
end Go.Proofs.Ytgdkgnolkepgdaa
