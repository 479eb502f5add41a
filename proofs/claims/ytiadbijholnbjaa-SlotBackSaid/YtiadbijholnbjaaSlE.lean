/- The reference's Cut, SameSlots. -/
import Derived.Test.YtiadbijholnbjaaSlD
namespace Go.Proofs.Ytiadbijholnbjaa
open Go.RowKit Go.Amb Go.Shelf
set_option linter.unusedVariables false
set_option linter.unusedSimpArgs false
def cutR (e q : Int) (s : List UInt8) (k : Nat) : List S5 := (List.range k).map fun (i : Nat) => ⟨e, q + i, decide (i = 0), decide (i + 1 = pieceN s), pieceB s i⟩
theorem cutR_succ (e q : Int) (s : List UInt8) (k : Nat) : cutR e q s (k + 1) = cutR e q s k ++ [⟨e, q + k, decide (k = 0), decide (k + 1 = pieceN s), pieceB s k⟩] := by simp [cutR, List.range_succ]
theorem cutR_length (e q : Int) (s : List UInt8) (k : Nat) : (cutR e q s k).length = k := by simp [cutR]
set_option maxRecDepth 100000
set_option maxHeartbeats 2000000 in
theorem refCut_run (s : List UInt8) (e q : Int) (w : World) (hs : s.length ≤ 16384) (he : 0 ≤ e ∧ e ≤ 2147483647) (hq : 0 ≤ q ∧ q + pieceN s ≤ 1152921504606846977) : Calls Try.prog 10 #[.string ⟨s.toArray⟩, .int .i64 e, .int .i64 q] w
    (fun en w' => ∃ v, en = .returned (.tuple #[v, .int .i64 0]) ∧ OwnS 41 w w' v (cutS e q s) ∧ Upd Non w w') := by
  have hN := pieceN_pos s
  have hN2 : pieceN s ≤ 152 := by unfold pieceN; omega
  have hs' : ¬ (16384 : Int) < (s.length : Int) := by omega
  have he1 : ¬ e < 0 := by omega
  have he2 : ¬ 2147483647 < e := by omega
  have hq1 : ¬ q < 0 := by omega
  obtain ⟨k, hk⟩ : ∃ k : Nat, (s.length + 107) / 108 = k := ⟨_, rfl⟩
  have hquo : ((s.length : Int) + 108 - 1) / 108 = (k : Int) := by omega
  have hpn : pieceN s = max 1 k := by unfold pieceN; rw [hk]
  by_cases hk1 : 1 < k
  · have hk1' : (1 : Int) < (k : Int) := by omega
    have hNk : pieceN s = k := by omega
    have hqq : ¬ (1152921504606846976 - (k : Int) + 1 < q) := by omega
    have hkk : (k : Int) ≤ 152 := by omega
    clear hpn
    replace hq := Lib.hid hq
    replace hk := Lib.hid hk
    clear hN hN2
    go_enter Try.func10, Try.ntmps10
    go_wp2_with fail
    go_loopw [9, 10] (fun ov iv wr => ∃ i : Nat, iv = .int .i64 (i : Int) ∧ i ≤ k ∧ OwnS 41 w wr ov (cutR e q s i) ∧ Upd Non w wr) (fun _ iv _ => k - (intOf iv).toNat)
    case atStart => exact ⟨0, rfl, by omega, World.ownsRow_nil _ _ _ _, Upd.refl _ _⟩
    case round =>
      obtain ⟨i, rfl, hi, ho, hu⟩ := hrel
      have hcl := cutR_length e q s i
      by_cases hin : i < k
      · have hin' : (i : Int) < (k : Int) := by omega
        have hnx := cutR_succ e q s i
        unfold pieceB at hnx
        rw [hNk] at hnx
        have hkq := hk.out
        have hw1 : IntKind.i64.wrap (q + (i : Int)) = q + (i : Int) := IntWalk.i64_in _ ⟨by omega, by omega⟩
        have hz := hu.size
        have hfl : ((i : Int) == (k : Int) - 1) = decide (i + 1 = k) := by rw [Bool.eq_iff_iff]; simp; omega
        have hff : ((i : Int) == 0) = decide (i = 0) := by rw [Bool.eq_iff_iff]; simp
        have hinf := Lib.hid (@info_slot)
        replace hk := Lib.hid hk
        by_cases hm : ((i : Int) + 1) * 108 < (s.length : Int)
        · have hsl := fun w => run_sub (P := Try.prog) 9 Try.underlying9 s ((i : Int) * 108) (((i : Int) + 1) * 108) (i * 108) (i * 108 + 108) (by omega) (by omega) (by omega) (by omega) w
          rw [show i * 108 + 108 - i * 108 = 108 by omega, show i * 108 = 108 * i by omega] at hsl
          go_wp2_with (at_builtin; go_must (refine wpList_app1n rfl _ _ 22 rfl w.heap.size 41 (.agg #[.int .i64 0, .int .i64 0, .bool false, .bool false, .string ⟨#[]⟩]) 5 40 Try.underlying22 hinf.out rfl _ (cutR e q s i).length (sc (cutR e q s i)) rfl ho [.int .i64 e, .int .i64 (q + (i : Int)), .bool (decide (i = 0)), .bool (decide (i + 1 = k)), .string ⟨(((s.drop (108 * i)).take 108)).toArray⟩] wr.heap.size rfl rfl rfl (sc_one [⟨e, q + (i : Int), decide (i = 0), decide (i + 1 = k), ((s.drop (108 * i)).take 108)⟩]) (by unfold maxLen; omega) (by omega) hz ?_))
          intro v3 w3 ho3 hu3 hf3
          have ho4 : OwnS 41 w w3 v3 (cutR e q s (i + 1)) := by rw [hnx]; exact own_slots (l' := [⟨e, q + i, decide (i = 0), decide (i + 1 = k), ((s.drop (108 * i)).take 108)⟩]) ho3 (by simp [hcl])
          have hU3 : Upd Non w w3 := hu.trans hu3 fun j hj h => absurd (own_ge ho h) (by omega)
          go_wp2_with fail
          go_roundw
          case rel => exact ⟨i + 1, by go_num, by omega, ho4, hU3⟩
          case measure => simp [intOf]; omega
        · have hsl := fun w => run_sub (P := Try.prog) 9 Try.underlying9 s ((i : Int) * 108) (s.length : Int) (i * 108) s.length (by omega) (by omega) (by omega) (by omega) w
          rw [show i * 108 = 108 * i by omega, show (s.drop (108 * i)).take (s.length - 108 * i) = (s.drop (108 * i)).take 108 by rw [List.take_of_length_le (by simp), List.take_of_length_le (by simp; omega)]] at hsl
          go_wp2_with (at_builtin; go_must (refine wpList_app1n rfl _ _ 22 rfl w.heap.size 41 (.agg #[.int .i64 0, .int .i64 0, .bool false, .bool false, .string ⟨#[]⟩]) 5 40 Try.underlying22 hinf.out rfl _ (cutR e q s i).length (sc (cutR e q s i)) rfl ho [.int .i64 e, .int .i64 (q + (i : Int)), .bool (decide (i = 0)), .bool (decide (i + 1 = k)), .string ⟨(((s.drop (108 * i)).take 108)).toArray⟩] wr.heap.size rfl rfl rfl (sc_one [⟨e, q + (i : Int), decide (i = 0), decide (i + 1 = k), ((s.drop (108 * i)).take 108)⟩]) (by unfold maxLen; omega) (by omega) hz ?_))
          intro v3 w3 ho3 hu3 hf3
          have ho4 : OwnS 41 w w3 v3 (cutR e q s (i + 1)) := by rw [hnx]; exact own_slots (l' := [⟨e, q + i, decide (i = 0), decide (i + 1 = k), ((s.drop (108 * i)).take 108)⟩]) ho3 (by simp [hcl])
          have hU3 : Upd Non w w3 := hu.trans hu3 fun j hj h => absurd (own_ge ho h) (by omega)
          go_wp2_with fail
          go_roundw
          case rel => exact ⟨i + 1, by go_num, by omega, ho4, hU3⟩
          case measure => simp [intOf]; omega
      · obtain rfl : i = k := by omega
        have hin' : ¬ (i : Int) < (i : Int) := by omega
        have hR : Hid (cutR e q s i = cutS e q s) := by show _ = _; unfold cutS cutR; rw [hNk]
        go_wp2_with fail
        refine bodyPost_ret (v := .tuple #[_, .int .i64 0]) (by simp [results, Try.results10, go_sem]; try rfl) rfl ⟨_, rfl, ?_, hu⟩
        rw [← hR.out]; exact ho
  · have hk1' : ¬ (1 : Int) < (k : Int) := by omega
    have hNk : pieceN s = 1 := by omega
    have hqq : ¬ (1152921504606846976 < q) := by omega
    clear hpn
    replace hq := Lib.hid hq
    replace hk := Lib.hid hk
    clear hN hN2
    go_enter Try.func10, Try.ntmps10
    go_wp2_with fail
    have hlen : s.length ≤ 108 := by have := hk.out; omega
    have hkk := hk.out
    go_loopw [9, 10] (fun ov iv wr => ∃ i : Nat, iv = .int .i64 (i : Int) ∧ i ≤ 1 ∧ OwnS 41 w wr ov (cutR e q s i) ∧ Upd Non w wr) (fun _ iv _ => 1 - (intOf iv).toNat)
    case atStart => exact ⟨0, rfl, by omega, World.ownsRow_nil _ _ _ _, Upd.refl _ _⟩
    case round =>
      obtain ⟨i, rfl, hi, ho, hu⟩ := hrel
      have hcl := cutR_length e q s i
      by_cases hin : i < 1
      · obtain rfl : i = 0 := by omega
        have hz := hu.size
        have hinf := Lib.hid (@info_slot)
        have hm : ¬ (108 : Int) < (s.length : Int) := by omega
        have hsl := fun w => run_sub (P := Try.prog) 9 Try.underlying9 s 0 (s.length : Int) 0 s.length (by omega) (by omega) (by omega) (by omega) w
        rw [List.drop_zero, Nat.sub_zero, List.take_length] at hsl
        have hpc0 : pieceB s 0 = s := by unfold pieceB; rw [Nat.mul_zero, List.drop_zero, List.take_of_length_le hlen]
        go_wp2_with (at_builtin; go_must (refine wpList_app1n rfl _ _ 22 rfl w.heap.size 41 (.agg #[.int .i64 0, .int .i64 0, .bool false, .bool false, .string ⟨#[]⟩]) 5 40 Try.underlying22 hinf.out rfl _ _ _ rfl ho [.int .i64 e, .int .i64 q, .bool true, .bool true, .string ⟨s.toArray⟩] wr.heap.size rfl rfl rfl (sc_one [⟨e, q, true, true, s⟩]) (by unfold maxLen; omega) (by omega) hz ?_))
        intro v3 w3 ho3 hu3 hf3
        have ho4 : OwnS 41 w w3 v3 (cutR e q s (0 + 1)) := by
          rw [cutR_succ, hpc0, hNk]
          rw [show (⟨e, q + ((0 : Nat) : Int), decide (0 = 0), decide (0 + 1 = 1), s⟩ : S5) = ⟨e, q, true, true, s⟩ by simp]
          exact own_slots (l' := [⟨e, q, true, true, s⟩]) ho3 (by simp [hcl])
        have hU3 : Upd Non w w3 := hu.trans hu3 fun j hj h => absurd (own_ge ho h) (by omega)
        go_wp2_with fail
        go_roundw
        case rel => exact ⟨1, by go_num, by omega, ho4, hU3⟩
        case measure => simp [intOf]
      · obtain rfl : i = 1 := by omega
        have hR : Hid (cutR e q s 1 = cutS e q s) := by show _ = _; unfold cutS cutR; rw [hNk]
        go_wp2_with fail
        refine bodyPost_ret (v := .tuple #[_, .int .i64 0]) (by simp [results, Try.results10, go_sem]; try rfl) rfl ⟨_, rfl, ?_, hu⟩
        rw [← hR.out]; exact ho
theorem refCut_long (s : List UInt8) (e q : Int) (w : World) (hs : 16384 < s.length) : Calls Try.prog 10 #[.string ⟨s.toArray⟩, .int .i64 e, .int .i64 q] w
    (fun en w' => en = .returned (.tuple #[.slice none 0 0, .int .i64 5]) ∧ Upd Non w w') := by
  have hs' : (16384 : Int) < (s.length : Int) := by omega
  go_enter Try.func10, Try.ntmps10
  go_wp2_with fail
  refine bodyPost_ret (v := .tuple #[.slice none 0 0, .int .i64 5]) (by simp [results, Try.results10, go_sem]; try rfl) rfl ⟨rfl, Upd.refl _ _⟩
set_option maxRecDepth 100000
set_option maxHeartbeats 2000000 in
theorem refCut_args (s : List UInt8) (e q : Int) (w : World) (hs : s.length ≤ 16384) (h : ¬ ((0 ≤ e ∧ e ≤ 2147483647) ∧ 0 ≤ q ∧ q + pieceN s ≤ 1152921504606846977)) : Calls Try.prog 10 #[.string ⟨s.toArray⟩, .int .i64 e, .int .i64 q] w
    (fun en w' => en = .returned (.tuple #[.slice none 0 0, .int .i64 2]) ∧ Upd Non w w') := by
  have hs' : ¬ (16384 : Int) < (s.length : Int) := by omega
  obtain ⟨k, hk⟩ : ∃ k : Nat, (s.length + 107) / 108 = k := ⟨_, rfl⟩
  have hquo : ((s.length : Int) + 108 - 1) / 108 = (k : Int) := by omega
  have hpn : pieceN s = max 1 k := by unfold pieceN; rw [hk]
  have hkk : (k : Int) ≤ 152 := by omega
  by_cases hk1 : 1 < k
  all_goals
    first
    | (have hk1' : (1 : Int) < (k : Int) := by omega
       have hNk : pieceN s = k := by omega)
    | (have hk1' : ¬ (1 : Int) < (k : Int) := by omega
       have hNk : pieceN s = 1 := by omega)
    rw [hNk] at h
    clear hpn hNk hk hk1
    by_cases h1 : e < 0
    · clear h
      go_enter Try.func10, Try.ntmps10
      go_wp2_with fail
      refine bodyPost_ret (v := .tuple #[.slice none 0 0, .int .i64 2]) (by simp [results, Try.results10, go_sem]; try rfl) rfl ⟨rfl, Upd.refl _ _⟩
    by_cases h2 : 2147483647 < e
    · clear h
      go_enter Try.func10, Try.ntmps10
      go_wp2_with fail
      refine bodyPost_ret (v := .tuple #[.slice none 0 0, .int .i64 2]) (by simp [results, Try.results10, go_sem]; try rfl) rfl ⟨rfl, Upd.refl _ _⟩
    by_cases h3 : q < 0
    · clear h
      go_enter Try.func10, Try.ntmps10
      go_wp2_with fail
      refine bodyPost_ret (v := .tuple #[.slice none 0 0, .int .i64 2]) (by simp [results, Try.results10, go_sem]; try rfl) rfl ⟨rfl, Upd.refl _ _⟩
    first
    | (have h4 : 1152921504606846976 - (k : Int) + 1 < q := by omega
       clear h)
    | (have h4 : 1152921504606846976 < q := by omega
       clear h)
    go_enter Try.func10, Try.ntmps10
    go_wp2_with fail
    refine bodyPost_ret (v := .tuple #[.slice none 0 0, .int .i64 2]) (by simp [results, Try.results10, go_sem]; try rfl) rfl ⟨rfl, Upd.refl _ _⟩
theorem refCut (s : List UInt8) (e q : Int) (w : World) : Calls Try.prog 10 #[.string ⟨s.toArray⟩, .int .i64 e, .int .i64 q] w (CutTo s e q w) := by
  have hN := pieceN_pos s
  by_cases hs : 16384 < s.length
  · refine (refCut_long s e q w hs).mono fun en w' h => .inr ⟨fun hk => by have := hk.1; omega, ?_⟩
    rw [if_pos hs]; exact h
  by_cases ha : (0 ≤ e ∧ e ≤ 2147483647) ∧ 0 ≤ q ∧ q + pieceN s ≤ 1152921504606846977
  · exact (refCut_run s e q w (by omega) ha.1 ha.2).mono fun en w' h => .inl ⟨⟨by omega, ha⟩, h⟩
  · refine (refCut_args s e q w (by omega) ha).mono fun en w' h => .inr ⟨fun hk => ha hk.2, ?_⟩
    rw [if_neg hs]; exact h
end Go.Proofs.Ytiadbijholnbjaa
