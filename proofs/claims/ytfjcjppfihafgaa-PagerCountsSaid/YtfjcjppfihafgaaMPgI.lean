/- The walk over pager.New. -/
import Derived.Test.YtfjcjppfihafgaaMPgH
import Derived.Test.YtfjcjppfihafgaaMAMk
namespace Go.Proofs.Ytfjcjppfihafgaa
set_option maxRecDepth 100000
open Go.RowKit Go.Amb
set_option linter.unusedVariables false
set_option linter.unusedSimpArgs false
theorem stB_zero (n : Nat) : stB (List.replicate n 0) = 0 := by
  induction n with
  | zero => rfl
  | succ n ih => rw [List.replicate_succ, stB, ih]; rfl
theorem stC_zero (n : Nat) : Array.replicate n (Value.int .i64 0) = stC (List.replicate n 0) := by
  unfold stC
  rw [List.map_replicate]
  simp
section
variable {w0 w w' : World} {D : Nat} {F : Nat → Prop} {d : Dk}
set_option maxHeartbeats 2000000 in
theorem gNew (hL : Lv w0 D w F d) (hliv : Liv d d.K.length) (fr n : Nat) (h1 : 1 ≤ n) (hr : fr + 8 * n ≤ d.K.length) :
    Calls Try.prog 6 #[.pointer (some ⟨D, 0, none⟩), .int .i64 (fr : Int), .int .i64 (n : Int)] w (fun en w' => ∃ P r g I, en = .returned (.tuple #[.pointer (some ⟨P, 0, none⟩), .int .i64 0]) ∧ Pg w0 w' P D F r g I fr (List.replicate n 0) d ∧ Upd Non w w' ∧ w.heap.size ≤ P ∧ w.heap.size ≤ r ∧ w.heap.size ≤ g ∧ w.heap.size ≤ I) := by
  have hk := hL.at_.ok.n2
  have hz0 := hL.upd.size
  have hS := Lib.hid (lSize hL.at_)
  have hA := Lib.hid (fun w' => aNew n w' ⟨h1, by omega⟩)
  obtain ⟨N, hN⟩ : ∃ N, d.K.length = N := ⟨_, rfl⟩
  have hlv := Lib.hid hL
  have hlt := Lib.hid hL.at_.lt
  have hok : Hid (Liv d d.K.length ∧ fr + 8 * n ≤ d.K.length) := Lib.hid ⟨hliv, hr⟩
  rw [hN] at hS hr hk
  clear hL hN hliv
  have b1 : ((N : Int) == 0) = false := by simp; omega
  have b2 : decide ((fr : Int) < 0) = false := decide_eq_false (by omega)
  have b3 : decide ((n : Int) < 1) = false := decide_eq_false (by omega)
  have b4 : decide (((N : Int).tdiv 8) < (n : Int)) = false := decide_eq_false (by rw [show (N : Int).tdiv 8 = ((N / 8 : Nat) : Int) from rfl]; omega)
  have b5 : IntKind.i64.wrap ((n : Int) * 8) = (n : Int) * 8 := IntWalk.i64_in _ ⟨by omega, by omega⟩
  have b6 : IntKind.i64.wrap ((N : Int) - (n : Int) * 8) = (N : Int) - (n : Int) * 8 := IntWalk.i64_in _ ⟨by omega, by omega⟩
  have b7 : decide ((N : Int) - (n : Int) * 8 < (fr : Int)) = false := decide_eq_false (by omega)
  have hmk := run_make1 Try.underlying27 (show (Try.prog.info? 61).map (fun i => (i.zero, i.size, i.bytes)) = some (some (.int .i64 0), 1, 8) by kernel_rfl) rfl n (by omega) (by omega)
  have hn0 : (0 : Int) ≤ (n : Int) := by omega
  replace h1 := Lib.hid h1
  go_enter Try.func6, Try.ntmps6
  go_wp2_with fail
  refine hS.out.mono ?_
  rintro en w1 ⟨rfl, hu⟩
  go_wp2_with fail
  refine (hA.out _).mono ?_
  rintro en w2 ⟨r, g, rfl, ha, hu2, hr2, hg2⟩
  have hz1 := hu.size
  have hz2 := hu2.size
  have hU := hu.trans hu2 fun _ _ h => h
  replace ha := Lib.hid ha
  clear hu hu2
  go_wp2_with fail
  go_ret2
  have hI := heap_alloc_new w2 (.cells (Array.replicate n (.int .i64 0)) 61)
  have u1 := Upd.alloc Non w2 (.cells (Array.replicate n (.int .i64 0)) 61)
  have hPn := heap_alloc_new (w2.alloc (.cells (Array.replicate n (.int .i64 0)) 61)) (.cells #[.pointer (some ⟨r, 0, none⟩), .pointer (some ⟨D, 0, none⟩), .int .i64 (fr : Int), .slice (some ⟨w2.heap.size, 0, none⟩) n n] 29)
  have u2 := Upd.alloc Non (w2.alloc (.cells (Array.replicate n (.int .i64 0)) 61)) (.cells #[.pointer (some ⟨r, 0, none⟩), .pointer (some ⟨D, 0, none⟩), .int .i64 (fr : Int), .slice (some ⟨w2.heap.size, 0, none⟩) n n] 29)
  have hU2 := u1.trans u2 fun _ _ h => h
  have hrl := ha.out.live
  rw [show (w2.alloc (.cells (Array.replicate n (.int .i64 0)) 61)).heap.size = w2.heap.size + 1 by simp] at hPn
  have hUU := hU.trans hU2 fun _ _ h => h
  have hF : ∀ k, F k → k < w.heap.size := hlt.out
  have hrg := ha.out.apart
  refine ⟨w2.heap.size + 1, r, g, w2.heap.size, by simp, ⟨⟨hlv.out.non hUU, ?_, ?_, ?_, by omega, ⟨fun e => by have := hF _ e; omega, fun e => by have := hF _ e; omega, fun e => by have := hF _ e; omega, fun e => by have := hF _ e; omega⟩, by omega⟩, hok.out.1, ?_, fun s hs => by rw [List.eq_of_mem_replicate hs]; decide⟩, hUU, by omega, by omega, by omega, by omega⟩
  · rw [List.length_replicate]; exact hPn
  · rw [← stC_zero]; exact u2.heap hI fun h => h
  · rw [List.length_replicate, stB_zero]; exact ha.out.non hU2
  · rw [List.length_replicate]; exact hok.out.2
end
end Go.Proofs.Ytfjcjppfihafgaa
