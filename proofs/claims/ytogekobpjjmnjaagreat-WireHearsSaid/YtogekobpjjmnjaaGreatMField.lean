/- The walks over package field. -/
import Derived.Test.YtogekobpjjmnjaaGreatRows
import Derived.Test.YtogekobpjjmnjaaGreatMLib
import Derived.Deep.DeepMust
import Derived.Handy
namespace Go.Proofs.YtogekobpjjmnjaaGreat
set_option maxRecDepth 100000
open Go.RowKit Go.Amb
set_option linter.unusedVariables false

theorem info_u8 : (Tryz.prog.info? 5).map (fun i => (i.zero, i.size, i.bytes)) = some (some (.int .u8 0), 1, 1) := by kernel_rfl

set_option maxHeartbeats 400000 in
theorem put8 (base : Nat) (v : Value) (l : List UInt8) (m : Nat) (n : Int) (w : World) (hm : m ≤ 8) (h0 : 0 ≤ n) (h1 : n < 256)
    (hown : Own w base 5 v l) (hlen : l.length + m ≤ 140737488355328) (hb : base ≤ w.heap.size) :
    Calls Tryz.prog 86 #[v, .int .u8 n, .int .i64 m] w (Grew base 5 v (l ++ fld n m) w) := by
  have hi := Lib.hid (@info_u8)
  go_enter Tryz.func86, Tryz.ntmps86
  go_wp2_with fail
  go_loopw [0, 7] (fun u i wr => ∃ k : Nat, k ≤ m ∧ i = .int .i64 ((k : Int) - 1) ∧ Own wr base 5 u (l ++ fldTo n m (m - k)) ∧ Upd (At v) w wr ∧ ∀ j, At u j → At v j ∨ w.heap.size ≤ j) (fun _ i _ => (intOf i + 1).toNat)
  case atStart => exact ⟨m, by omega, rfl, by simpa [fldTo] using hown, Upd.refl _ _, fun j hj => .inl hj⟩
  case round =>
    obtain ⟨k, hk, rfl, ho, hu, hf⟩ := hrel
    by_cases hz : k = 0
    · subst hz
      go_wp2_with fail
      go_ret
      exact ⟨_, rfl, ho, hu, hf⟩
    · have hsz := hu.size
      go_wp2_with (at_builtin; go_must (refine wpList_app1 rfl _ _ 22 rfl base 5 (.int .u8 0) 1 1 Tryz.underlying22 hi.out rfl _ _ _ rfl ho [.int .u8 _] rfl rfl ?h1c ?h63 ?hby (by omega) ?_))
      case h1c => intro u hu; rw [List.mem_singleton] at hu; subst hu; rfl
      case h63 => simp [fldTo_length]; unfold maxLen; omega
      case hby => simp [fldTo_length]; omega
      intro v' w' ho' hu' hf'
      go_wp2_with fail
      go_roundw
      case rel =>
        refine ⟨k - 1, by omega, by go_num, ?_, hu.trans hu' fun j hj h => (hf j h).elim id fun h => by omega, fun j hj => (hf' j hj).elim (hf j) fun h => .inr (by omega)⟩
        rw [show m - (k - 1) = (m - k) + 1 by omega, fldTo_succ, ← List.append_assoc]
        refine own_snoc ho' ?_
        rw [show m - 1 - (m - k) = k - 1 by omega, byteAt_int]
      case measure => simp [intOf]; omega

set_option maxHeartbeats 400000 in
theorem put16 (base : Nat) (v : Value) (l : List UInt8) (m : Nat) (n : Int) (w : World) (hm : m ≤ 8) (h0 : 0 ≤ n) (h1 : n < 65536)
    (hown : Own w base 5 v l) (hlen : l.length + m ≤ 140737488355328) (hb : base ≤ w.heap.size) :
    Calls Tryz.prog 87 #[v, .int .u16 n, .int .i64 m] w (Grew base 5 v (l ++ fld n m) w) := by
  have hi := Lib.hid (@info_u8)
  go_enter Tryz.func87, Tryz.ntmps87
  go_wp2_with fail
  go_loopw [0, 7] (fun u i wr => ∃ k : Nat, k ≤ m ∧ i = .int .i64 ((k : Int) - 1) ∧ Own wr base 5 u (l ++ fldTo n m (m - k)) ∧ Upd (At v) w wr ∧ ∀ j, At u j → At v j ∨ w.heap.size ≤ j) (fun _ i _ => (intOf i + 1).toNat)
  case atStart => exact ⟨m, by omega, rfl, by simpa [fldTo] using hown, Upd.refl _ _, fun j hj => .inl hj⟩
  case round =>
    obtain ⟨k, hk, rfl, ho, hu, hf⟩ := hrel
    by_cases hz : k = 0
    · subst hz
      go_wp2_with fail
      go_ret
      exact ⟨_, rfl, ho, hu, hf⟩
    · have hsz := hu.size
      go_wp2_with (at_builtin; go_must (refine wpList_app1 rfl _ _ 22 rfl base 5 (.int .u8 0) 1 1 Tryz.underlying22 hi.out rfl _ _ _ rfl ho [.int .u8 _] rfl rfl ?h1c ?h63 ?hby (by omega) ?_))
      case h1c => intro u hu; rw [List.mem_singleton] at hu; subst hu; rfl
      case h63 => simp [fldTo_length]; unfold maxLen; omega
      case hby => simp [fldTo_length]; omega
      intro v' w' ho' hu' hf'
      go_wp2_with fail
      go_roundw
      case rel =>
        refine ⟨k - 1, by omega, by go_num, ?_, hu.trans hu' fun j hj h => (hf j h).elim id fun h => by omega, fun j hj => (hf' j hj).elim (hf j) fun h => .inr (by omega)⟩
        rw [show m - (k - 1) = (m - k) + 1 by omega, fldTo_succ, ← List.append_assoc]
        refine own_snoc ho' ?_
        rw [show m - 1 - (m - k) = k - 1 by omega, byteAt_int]
      case measure => simp [intOf]; omega

set_option maxHeartbeats 400000 in
theorem put32 (base : Nat) (v : Value) (l : List UInt8) (m : Nat) (n : Int) (w : World) (hm : m ≤ 8) (h0 : 0 ≤ n) (h1 : n < 4294967296)
    (hown : Own w base 5 v l) (hlen : l.length + m ≤ 140737488355328) (hb : base ≤ w.heap.size) :
    Calls Tryz.prog 100 #[v, .int .u32 n, .int .i64 m] w (Grew base 5 v (l ++ fld n m) w) := by
  have hi := Lib.hid (@info_u8)
  go_enter Tryz.func100, Tryz.ntmps100
  go_wp2_with fail
  go_loopw [0, 7] (fun u i wr => ∃ k : Nat, k ≤ m ∧ i = .int .i64 ((k : Int) - 1) ∧ Own wr base 5 u (l ++ fldTo n m (m - k)) ∧ Upd (At v) w wr ∧ ∀ j, At u j → At v j ∨ w.heap.size ≤ j) (fun _ i _ => (intOf i + 1).toNat)
  case atStart => exact ⟨m, by omega, rfl, by simpa [fldTo] using hown, Upd.refl _ _, fun j hj => .inl hj⟩
  case round =>
    obtain ⟨k, hk, rfl, ho, hu, hf⟩ := hrel
    by_cases hz : k = 0
    · subst hz
      go_wp2_with fail
      go_ret
      exact ⟨_, rfl, ho, hu, hf⟩
    · have hsz := hu.size
      go_wp2_with (at_builtin; go_must (refine wpList_app1 rfl _ _ 22 rfl base 5 (.int .u8 0) 1 1 Tryz.underlying22 hi.out rfl _ _ _ rfl ho [.int .u8 _] rfl rfl ?h1c ?h63 ?hby (by omega) ?_))
      case h1c => intro u hu; rw [List.mem_singleton] at hu; subst hu; rfl
      case h63 => simp [fldTo_length]; unfold maxLen; omega
      case hby => simp [fldTo_length]; omega
      intro v' w' ho' hu' hf'
      go_wp2_with fail
      go_roundw
      case rel =>
        refine ⟨k - 1, by omega, by go_num, ?_, hu.trans hu' fun j hj h => (hf j h).elim id fun h => by omega, fun j hj => (hf' j hj).elim (hf j) fun h => .inr (by omega)⟩
        rw [show m - (k - 1) = (m - k) + 1 by omega, fldTo_succ, ← List.append_assoc]
        refine own_snoc ho' ?_
        rw [show m - 1 - (m - k) = k - 1 by omega, byteAt_int]
      case measure => simp [intOf]; omega

set_option maxHeartbeats 400000 in
theorem put64 (base : Nat) (v : Value) (l : List UInt8) (m : Nat) (n : Int) (w : World) (hm : m ≤ 8) (_h0 : 0 ≤ n) (_h1 : n < 18446744073709551616)
    (hown : Own w base 5 v l) (hlen : l.length + m ≤ 140737488355328) (hb : base ≤ w.heap.size) :
    Calls Tryz.prog 85 #[v, .int .u64 n, .int .i64 m] w (Grew base 5 v (l ++ fld n m) w) := by
  have hi := Lib.hid (@info_u8)
  go_enter Tryz.func85, Tryz.ntmps85
  go_wp2_with fail
  go_loopw [0, 7] (fun u i wr => ∃ k : Nat, k ≤ m ∧ i = .int .i64 ((k : Int) - 1) ∧ Own wr base 5 u (l ++ fldTo n m (m - k)) ∧ Upd (At v) w wr ∧ ∀ j, At u j → At v j ∨ w.heap.size ≤ j) (fun _ i _ => (intOf i + 1).toNat)
  case atStart => exact ⟨m, by omega, rfl, by simpa [fldTo] using hown, Upd.refl _ _, fun j hj => .inl hj⟩
  case round =>
    obtain ⟨k, hk, rfl, ho, hu, hf⟩ := hrel
    by_cases hz : k = 0
    · subst hz
      go_wp2_with fail
      go_ret
      exact ⟨_, rfl, ho, hu, hf⟩
    · have hsz := hu.size
      go_wp2_with (at_builtin; go_must (refine wpList_app1 rfl _ _ 22 rfl base 5 (.int .u8 0) 1 1 Tryz.underlying22 hi.out rfl _ _ _ rfl ho [.int .u8 _] rfl rfl ?h1c ?h63 ?hby (by omega) ?_))
      case h1c => intro u hu; rw [List.mem_singleton] at hu; subst hu; rfl
      case h63 => simp [fldTo_length]; unfold maxLen; omega
      case hby => simp [fldTo_length]; omega
      intro v' w' ho' hu' hf'
      go_wp2_with fail
      go_roundw
      case rel =>
        refine ⟨k - 1, by omega, by go_num, ?_, hu.trans hu' fun j hj h => (hf j h).elim id fun h => by omega, fun j hj => (hf' j hj).elim (hf j) fun h => .inr (by omega)⟩
        rw [show m - (k - 1) = (m - k) + 1 by omega, fldTo_succ, ← List.append_assoc]
        refine own_snoc ho' ?_
        rw [show m - 1 - (m - k) = k - 1 by omega, byteAt_int]
      case measure => simp [intOf]; omega

theorem Put8 (base : Nat) (v : Value) (l : List UInt8) (n : Int) (w : World) (hlo : -9223372036854775808 ≤ n) (hhi : n ≤ 9223372036854775807)
    (hown : Own w base 5 v l) (hlen : l.length + 1 ≤ 140737488355328) (hb : base ≤ w.heap.size) :
    Calls Tryz.prog 52 #[v, .int .i64 n] w (Grew base 5 v (l ++ fld n 1) w) := by
  have hf : Hid (fld (n % 256) 1 = fld n 1) := by
    have h := fld_mod n 1 1 (by decide)
    have e : n % 256 = n % 2 ^ (8 * 1) := by simp only [Nat.reduceMul, Int.reducePow]
    rw [e]; exact h
  go_enter Tryz.func52, Tryz.ntmps52
  go_wp2_with fail
  refine (put8 base v l 1 (n % 256) w (by decide) ?_ ?_ hown hlen hb).mono ?_
  · omega
  · omega
  rintro e w1 ⟨v', rfl, ho, hu, hn⟩
  rw [hf.out] at ho
  go_wp2_with fail
  go_ret
  exact ⟨v', rfl, ho, hu, hn⟩

theorem Put16 (base : Nat) (v : Value) (l : List UInt8) (n : Int) (w : World) (hlo : -9223372036854775808 ≤ n) (hhi : n ≤ 9223372036854775807)
    (hown : Own w base 5 v l) (hlen : l.length + 2 ≤ 140737488355328) (hb : base ≤ w.heap.size) :
    Calls Tryz.prog 57 #[v, .int .i64 n] w (Grew base 5 v (l ++ fld n 2) w) := by
  have hf : Hid (fld (IntKind.u16.wrap n) 2 = fld n 2) := by
    have h := fld_mod n 2 2 (by decide)
    have e : IntKind.u16.wrap n = n % 2 ^ (8 * 2) := by simp only [IntKind.wrap_u16, Nat.reduceMul, Int.reducePow]
    rw [e]; exact h
  go_enter Tryz.func57, Tryz.ntmps57
  go_wp2_with fail
  refine (put16 base v l 2 (IntKind.u16.wrap n) w (by decide) ?_ ?_ hown hlen hb).mono ?_
  · simp only [IntKind.wrap_u16]; omega
  · simp only [IntKind.wrap_u16]; omega
  rintro e w1 ⟨v', rfl, ho, hu, hn⟩
  rw [hf.out] at ho
  go_wp2_with fail
  go_ret
  exact ⟨v', rfl, ho, hu, hn⟩

theorem Put32 (base : Nat) (v : Value) (l : List UInt8) (n : Int) (w : World) (hlo : -9223372036854775808 ≤ n) (hhi : n ≤ 9223372036854775807)
    (hown : Own w base 5 v l) (hlen : l.length + 4 ≤ 140737488355328) (hb : base ≤ w.heap.size) :
    Calls Tryz.prog 84 #[v, .int .i64 n] w (Grew base 5 v (l ++ fld n 4) w) := by
  have hf : Hid (fld (n % 4294967296) 4 = fld n 4) := by
    have h := fld_mod n 4 4 (by decide)
    have e : n % 4294967296 = n % 2 ^ (8 * 4) := by simp only [Nat.reduceMul, Int.reducePow]
    rw [e]; exact h
  go_enter Tryz.func84, Tryz.ntmps84
  go_wp2_with fail
  refine (put32 base v l 4 (n % 4294967296) w (by decide) ?_ ?_ hown hlen hb).mono ?_
  · omega
  · omega
  rintro e w1 ⟨v', rfl, ho, hu, hn⟩
  rw [hf.out] at ho
  go_wp2_with fail
  go_ret
  exact ⟨v', rfl, ho, hu, hn⟩

theorem Put64 (base : Nat) (v : Value) (l : List UInt8) (n : Int) (w : World) (hlo : -9223372036854775808 ≤ n) (hhi : n ≤ 9223372036854775807)
    (hown : Own w base 5 v l) (hlen : l.length + 8 ≤ 140737488355328) (hb : base ≤ w.heap.size) :
    Calls Tryz.prog 51 #[v, .int .i64 n] w (Grew base 5 v (l ++ fld n 8) w) := by
  have hf : Hid (fld (IntKind.u64.wrap n) 8 = fld n 8) := by
    have h := fld_mod n 8 8 (by decide)
    have e : IntKind.u64.wrap n = n % 2 ^ (8 * 8) := by simp only [IntKind.wrap_u64, Nat.reduceMul, Int.reducePow]
    rw [e]; exact h
  go_enter Tryz.func51, Tryz.ntmps51
  go_wp2_with fail
  refine (put64 base v l 8 (IntKind.u64.wrap n) w (by decide) ?_ ?_ hown hlen hb).mono ?_
  · simp only [IntKind.wrap_u64]; omega
  · simp only [IntKind.wrap_u64]; omega
  rintro e w1 ⟨v', rfl, ho, hu, hn⟩
  rw [hf.out] at ho
  go_wp2_with fail
  go_ret
  exact ⟨v', rfl, ho, hu, hn⟩

theorem PutText (base : Nat) (v : Value) (l s : List UInt8) (w : World)
    (hown : Own w base 5 v l) (hlen : l.length + s.length + 4 ≤ 140737488355328) (hb : base ≤ w.heap.size) :
    Calls Tryz.prog 50 #[v, .string ⟨s.toArray⟩] w (Grew base 5 v (l ++ (fld s.length 4 ++ s)) w) := by
  have hi := Lib.hid (@info_u8)
  go_enter Tryz.func50, Tryz.ntmps50
  go_wp2_with fail
  refine (Put32 base v l _ w (by omega) (by omega) hown (by omega) hb).mono ?_
  rintro e w1 ⟨v1, rfl, ho, hu, hn⟩
  have hsz := hu.size
  go_wp2_with (at_builtin; go_must (refine wpList_app rfl _ _ 22 9 rfl base 5 (.int .u8 0) 1 1 Tryz.underlying22 hi.out rfl _ _ _ rfl ho (.string ⟨s.toArray⟩) s.length (bc s) rfl (Src.ofString w1 Tryz.underlying9 ⟨s.toArray⟩) ?h63 ?hby (by omega) ?_))
  case h63 => simp [fld_length]; unfold maxLen; omega
  case hby => simp [fld_length]; omega
  intro v' w' ho' hu' hf'
  go_wp2_with fail
  go_ret
  refine ⟨v', rfl, ?_, hu.trans hu' fun j hj h => (hn j h).elim id fun h => by omega, fun j hj => (hf' j hj).elim (hn j) fun h => .inr (by omega)⟩
  rw [← List.append_assoc]
  exact own_app ho'

end Go.Proofs.YtogekobpjjmnjaaGreat
