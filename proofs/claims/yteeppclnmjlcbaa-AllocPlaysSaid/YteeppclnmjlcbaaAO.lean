/- The walks over package alloc: Rows. -/
import Derived.Test.YteeppclnmjlcbaaAN
namespace Go.Proofs.Yteeppclnmjlcbaa
open Go.RowKit Go.Amb
set_option linter.unusedVariables false

/-- Rows, as cells. -/
def rc (l : List (Nat × Nat)) : List Value := l.flatMap fun p => [.int .i64 (p.1 : Int), .int .i64 (p.2 : Int)]
theorem rc_append (a b : List (Nat × Nat)) : rc (a ++ b) = rc a ++ rc b := by simp [rc]
theorem rc_length (l : List (Nat × Nat)) : (rc l).length = l.length * 2 := by
  induction l with
  | nil => rfl
  | cons p l ih =>
    show ([_, _] ++ rc l).length = _
    rw [List.length_append, ih]; simp; omega
theorem rc_get (l : List (Nat × Nat)) : ∀ (k : Nat) (h : k < l.length), (rc l)[k * 2]? = some (.int .i64 (l[k].1 : Int)) ∧ (rc l)[k * 2 + 1]? = some (.int .i64 (l[k].2 : Int)) := by
  induction l with
  | nil => intro k h; cases h
  | cons p l ih =>
    intro k h
    cases k with
    | zero => exact ⟨rfl, rfl⟩
    | succ k =>
      have := ih k (by simpa using h)
      rw [show (k + 1) * 2 = k * 2 + 2 by omega, show k * 2 + 2 + 1 = k * 2 + 1 + 2 by omega]
      exact this
theorem rc_one (l : List (Nat × Nat)) : ∀ u ∈ rc l, u.oneCell' = true := by
  intro u hu
  obtain ⟨p, _, hp⟩ := List.mem_flatMap.1 hu
  simp only [List.mem_cons, List.not_mem_nil, or_false] at hp
  rcases hp with rfl | rfl <;> rfl
/-- A slice of rows; one of the call's own. -/
abbrev RowsAt (w : World) (v : Value) (l : List (Nat × Nat)) : Prop := Has w 2 v l.length (rc l)
abbrev OwnR (w0 w : World) (v : Value) (l : List (Nat × Nat)) : Prop := w.ownsRow w0.heap.size 28 2 v l.length (rc l)
theorem own_rows {w : World} {base : Nat} {v : Value} {l l' : List (Nat × Nat)} {N : Nat} (h : w.ownsRow base 28 2 v N (rc l ++ rc l')) (hN : N = l.length + l'.length) : w.ownsRow base 28 2 v (l ++ l').length (rc (l ++ l')) := by
  rw [rc_append, List.length_append, ← hN]; exact h
theorem info_row : (Try.prog.info? 28).map (fun i => (i.zero, i.size, i.bytes)) = some (some (.agg #[.int .i64 0, .int .i64 0]), 2, 16) := rfl
/-- Rows told in a new block. -/
def Rowed (l : List (Nat × Nat)) (w : World) : Ending → World → Prop := fun e w' => ∃ v, e = .returned v ∧ RowsAt w' v l ∧ Upd Non w w' ∧ ∀ k, At v k → w.heap.size ≤ k ∧ k < w'.heap.size
/-- The free rows from a page on. -/
def rowsFrom (B n : Nat) : Nat → Nat → List (Nat × Nat)
  | 0, _ => []
  | f + 1, i => if i < n then (if runN B n i n = 0 then rowsFrom B n f (i + 1) else (i, runN B n i n) :: rowsFrom B n f (i + runN B n i n + 1)) else []
def rowsN (B n : Nat) : List (Nat × Nat) := rowsFrom B n (n + 1) 0
theorem runN_fit {B n i m : Nat} (h : i ≤ n) : i + runN B n i m ≤ n := by
  by_cases h0 : runN B n i m = 0
  · omega
  · have := (runN_free B n m i (runN B n i m - 1) (by omega)).1; omega
set_option maxHeartbeats 2000000 in
theorem aRows (r g n B : Nat) (w : World) (h : AllocAt w r g n B) : Calls Try.prog 10 #[.pointer (some ⟨r, 0, none⟩)] w (Rowed (rowsN B n) w) := by
  have hm := Lib.hid (aMade r g n B w h)
  have hi2 := Lib.hid (@info_row)
  have hA0 := h
  have h0 := h.size
  have hn := h.most
  clear h
  go_enter Try.func10, Try.ntmps10
  go_wp2_with fail
  refine hm.out.mono ?_
  rintro e w1 ⟨rfl, hu⟩
  go_wp2_with fail
  go_loopw [3, 4] (fun ov iv wr => ∃ (i f : Nat) (xs : List (Nat × Nat)), iv = .int .i64 (i : Int) ∧ i ≤ n + 1 ∧ xs.length ≤ i ∧ n + 1 ≤ i + f ∧ OwnR w wr ov xs ∧ xs ++ rowsFrom B n f i = rowsN B n ∧ Upd Non w wr) (fun _ iv _ => n + 1 - (intOf iv).toNat)
  case atStart => exact ⟨0, n + 1, [], rfl, by omega, by simp, by omega, World.ownsRow_nil _ _ _ _, rfl, hu⟩
  case round =>
    obtain ⟨i, f, xs, rfl, hi, hxi, hf, ho, hrow, hur⟩ := hrel
    have hAr := hA0.non hur
    have c1 := hur.cell h0 fun h => h
    by_cases hin : i < n
    · have hin' : (i : Int) < n := by omega
      obtain ⟨f', rfl⟩ : ∃ f', f = f' + 1 := ⟨f - 1, by omega⟩
      have hst : rowsFrom B n (f' + 1) i = if runN B n i n = 0 then rowsFrom B n f' (i + 1) else (i, runN B n i n) :: rowsFrom B n f' (i + runN B n i n + 1) := by rw [rowsFrom, if_pos hin]
      have hrun := Lib.hid (aRun r g n B i n wr hAr (by omega) (by omega))
      have hgn := @runN_fit B n i n (by omega)
      generalize runN B n i n = k at *
      by_cases hk : k = 0
      · subst hk
        rw [if_pos rfl] at hst
        replace hrow := Lib.hid hrow
        replace hst := Lib.hid hst
        go_wp2_with fail
        refine hrun.out.mono ?_
        rintro e w2 ⟨rfl, hu2⟩
        have ho2 := hu2.owns ho fun _ _ h => h
        have hU2 := hur.trans hu2 fun _ _ h => h
        go_wp2_with fail
        go_roundw
        case rel => exact ⟨i + 1, f', xs, by go_num, by omega, by omega, by omega, ho2, by rw [← hst.out]; exact hrow.out, hU2⟩
        case measure => simp [intOf]; omega
      · have hk0 : (0 : Int) < (k : Int) := by omega
        rw [if_neg hk] at hst
        replace hrow := Lib.hid hrow
        replace hst := Lib.hid hst
        have a1 : IntKind.i64.wrap ((i : Int) + (k : Int)) = ((i + k : Nat) : Int) := IntWalk.i64_in _ ⟨by omega, by omega⟩
        generalize hp : i + k = p at *
        replace hp := Lib.hid hp
        go_wp2_with fail
        refine hrun.out.mono ?_
        rintro e w2 ⟨rfl, hu2⟩
        have ho2 := hu2.owns ho fun _ _ h => h
        have hU2 := hur.trans hu2 fun _ _ h => h
        have hz2 := hU2.size
        go_wp2_with (at_builtin; go_must (refine wpList_app1n rfl _ _ 26 rfl w.heap.size 28 (.agg #[.int .i64 0, .int .i64 0]) 2 16 Try.underlying26 hi2.out rfl _ _ _ rfl ho2 [.int .i64 (i : Int), .int .i64 (k : Int)] w2.heap.size rfl rfl rfl (rc_one [(i, k)]) (by unfold maxLen; omega) (by omega) hz2 ?_))
        intro v3 w3 ho3 hu3 hf3
        have ho3 : OwnR w w3 v3 (xs ++ [(i, k)]) := own_rows (l' := [(i, k)]) ho3 rfl
        have hU3 : Upd Non w w3 := hU2.trans hu3 fun j hj h => absurd (own_ge ho2 h) (by omega)
        go_wp2_with fail
        go_roundw
        case rel => exact ⟨p + 1, f', xs ++ [(i, k)], by go_num, by have := hp.out; omega, by have := hp.out; simp; omega, by have := hp.out; omega, ho3, by
          rw [List.append_assoc, ← hrow.out, hst.out]; rfl, hU3⟩
        case measure => have := hp.out; simp [intOf]; omega
    · have hin' : ¬ (i : Int) < n := by omega
      have he : Hid (rowsN B n = xs) := by
        show _ = _
        rw [← hrow]
        cases f with
        | zero => simp [rowsFrom]
        | succ f => rw [rowsFrom, if_neg hin, List.append_nil]
      clear hrow
      go_wp2_with fail
      go_ret
      exact ⟨_, rfl, by rw [he.out]; exact has_of_owns ho, hur, fun k hk => ⟨own_ge ho hk, own_lt ho hk⟩⟩
end Go.Proofs.Yteeppclnmjlcbaa
