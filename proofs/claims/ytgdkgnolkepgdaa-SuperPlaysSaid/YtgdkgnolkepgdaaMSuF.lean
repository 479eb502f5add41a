/- field.Put64 behind a literal's row: the row is full, the first append grows it. -/
import Derived.Test.YtgdkgnolkepgdaaMSuA
import Derived.ArgAppend
import Derived.Lib.SlBytesConst
namespace Go.Proofs.Ytgdkgnolkepgdaa
set_option maxRecDepth 100000
open Go.RowKit Go.Amb Go.Shelf
set_option linter.unusedVariables false
set_option linter.unusedSimpArgs false

theorem own_weak {w : World} {b b' : Nat} {e : TypeId} {size n : Nat} {v : Value} {xs : List Value} (h : w.ownsRow b e size v n xs) (hb : b' ≤ b) : w.ownsRow b' e size v n xs := by
  obtain ⟨h1, h2 | ⟨g, cap, cur, e1, e2, e3⟩⟩ := h
  · exact ⟨h1, .inl h2⟩
  · exact ⟨h1, .inr ⟨g, cap, cur, e1, by omega, e3⟩⟩
theorem one_cell {w : World} {x : Value} (j : Nat) (u : Value) (hj : [x][j]? = some u) : (w.alloc (.cells #[x] 5)).cell? (Addr.add ⟨w.heap.size, 0, none⟩ j) = some u := by
  rw [Addr.add_lit, World.cell?_alloc_at _ _ _ _ rfl, Nat.zero_add]
  simpa using hj
set_option maxHeartbeats 1000000 in
theorem put64F (g : Nat) (l : List UInt8) (m : Nat) (n : Int) (w : World) (hm : 1 ≤ m ∧ m ≤ 8) (hc : ∀ j u, (bc l)[j]? = some u → w.cell? ⟨g, 0 + j, none⟩ = some u) (hlen : l.length ≤ 1000000) :
    Calls Try.prog 55 #[.slice (some ⟨g, 0, none⟩) l.length l.length, .int .u64 n, .int .i64 m] w (fun e w' => ∃ v', e = .returned v' ∧ Go.Amb.Own w' w.heap.size 5 v' (l ++ fld n m) ∧ Upd Non w w') := by
  have hi := Lib.hid (@info_u8)
  obtain ⟨i8, hi1, hi2, hi3, hi4⟩ := info_parts (@info_u8)
  replace hi1 := Lib.hid hi1
  replace hi2 := Lib.hid hi2
  replace hi3 := Lib.hid hi3
  replace hi4 := Lib.hid hi4
  replace hc := Lib.hid hc
  go_enter Try.func55, Try.ntmps55
  go_wp2_with fail
  go_loopw [0, 7] (fun u i wr => ∃ k : Nat, k ≤ m ∧ i = .int .i64 ((k : Int) - 1) ∧ ((k = m ∧ u = .slice (some ⟨g, 0, none⟩) l.length l.length ∧ wr = w) ∨ (k < m ∧ Go.Amb.Own wr w.heap.size 5 u (l ++ fldTo n m (m - k)) ∧ Upd Non w wr))) (fun _ i _ => (intOf i + 1).toNat)
  case atStart => exact ⟨m, by omega, rfl, .inl ⟨rfl, rfl, rfl⟩⟩
  case round =>
    obtain ⟨k, hk, rfl, hor⟩ := hrel
    rcases hor with ⟨hkm, rfl, rfl⟩ | ⟨hkm, ho, hu⟩
    · have hk0 : 0 < k := by omega
      replace hkm := Lib.hid hkm
      go_wp2_with (at_builtin; go_must (refine wpList_append_arg _ rfl _ _ 24 rfl 5 i8 (.int .u8 0) 1 1 Try.underlying24 hi1.out hi2.out hi3.out hi4.out rfl (by omega) g 0 l.length l.length (bc l) rfl (by simp [bc_length]) (fun j u hj => Lib.cell?_alloc_marked _ (hc.out j u hj)) ⟨wr.heap.size, 0, none⟩ 1 1 [.int .u8 _] rfl rfl one_cell (fun u hu => by rw [List.mem_singleton] at hu; subst hu; rfl) (fun h => absurd h (by omega)) (by unfold maxLen; omega) (by omega) (fun h => absurd h (by omega)) ?_))
      intro v' w' ho' hu'
      have hU : Upd Non wr w' := (Upd.alloc Non wr _).trans (Upd.of_grownBy (v := .slice none 0 0) hu') (fun j hj h => by simp [At, Value.ownBlock] at h)
      go_wp2_with fail
      go_roundw
      case rel =>
        refine ⟨k - 1, by omega, by go_num, .inr ⟨by have := hkm.out; omega, ?_, hU⟩⟩
        have hm1 : m - (k - 1) = 0 + 1 := by have := hkm.out; omega
        rw [hm1, fldTo_succ]
        refine own_snoc (own_weak ho' (by simp)) ?_
        rw [show m - 1 - 0 = k - 1 by have := hkm.out; omega, byteAt_int]
      case measure => simp [intOf]; omega
    · by_cases hz : k = 0
      · subst hz
        go_wp2_with fail
        go_ret
        exact ⟨_, rfl, ho, hu⟩
      · have hsz := hu.size
        go_wp2_with (at_builtin; go_must (refine wpList_app1 rfl _ _ 24 rfl w.heap.size 5 (.int .u8 0) 1 1 Try.underlying24 hi.out rfl _ _ _ rfl ho [.int .u8 _] rfl rfl ?h1c ?h63 ?hby (by omega) ?_))
        case h1c => intro u hu; rw [List.mem_singleton] at hu; subst hu; rfl
        case h63 => simp [fldTo_length]; unfold maxLen; omega
        case hby => simp [fldTo_length]; omega
        intro v' w' ho' hu' hf'
        go_wp2_with fail
        go_roundw
        case rel =>
          refine ⟨k - 1, by omega, by go_num, .inr ⟨by omega, ?_, hu.trans hu' fun j hj h => by have := own_ge ho h; omega⟩⟩
          rw [show m - (k - 1) = (m - k) + 1 by omega, fldTo_succ, ← List.append_assoc]
          refine own_snoc ho' ?_
          rw [show m - 1 - (m - k) = k - 1 by omega, byteAt_int]
        case measure => simp [intOf]; omega
theorem Put64F (g : Nat) (l : List UInt8) (n : Int) (w : World) (hlo : -9223372036854775808 ≤ n) (hhi : n ≤ 9223372036854775807) (hc : ∀ j u, (bc l)[j]? = some u → w.cell? ⟨g, 0 + j, none⟩ = some u) (hlen : l.length ≤ 1000000) :
    Calls Try.prog 31 #[.slice (some ⟨g, 0, none⟩) l.length l.length, .int .i64 n] w (fun e w' => ∃ v', e = .returned v' ∧ Go.Amb.Own w' w.heap.size 5 v' (l ++ fld n 8) ∧ Upd Non w w') := by
  have hf : Hid (fld (IntKind.u64.wrap n) 8 = fld n 8) := by
    have h := fld_mod n 8 8 (by decide)
    have e : IntKind.u64.wrap n = n % 2 ^ (8 * 8) := by simp only [IntKind.wrap_u64, Nat.reduceMul, Int.reducePow]
    rw [e]; exact h
  go_enter Try.func31, Try.ntmps31
  go_wp2_with fail
  refine (put64F g l 8 (IntKind.u64.wrap n) w (by decide) hc hlen).mono ?_
  rintro e w1 ⟨v', rfl, ho, hu⟩
  rw [hf.out] at ho
  go_wp2_with fail
  go_ret
  exact ⟨v', rfl, ho, hu⟩
end Go.Proofs.Ytgdkgnolkepgdaa
