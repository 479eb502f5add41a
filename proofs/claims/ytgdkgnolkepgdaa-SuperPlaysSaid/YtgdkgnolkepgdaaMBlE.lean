/- A new disk. -/
import Derived.Test.YtgdkgnolkepgdaaMBlD
import Derived.Deep.WholeRow
namespace Go.Proofs.Ytgdkgnolkepgdaa
open Go.RowKit Go.Amb
set_option linter.unusedVariables false
set_option linter.unusedSimpArgs false
set_option maxRecDepth 100000
theorem info_sector : (Try.prog.info? 99).map (fun i => (i.zero, i.size, i.bytes)) = some (some (.agg (Array.replicate 128 (.int .u8 0))), 128, 128) := by kernel_rfl
theorem run_make_sectors (m : Nat) (hm : m ≤ 16384) (w : World) :
    (Instr.makeSlice 55 (.int .i64 (m : Int)) (.int .i64 (m : Int))).run Try.prog w = .ok (.slice (some ⟨w.heap.size, 0, none⟩) m m) (w.alloc (.cells (Array.replicate (m * 128) (.int .u8 0)) 99)) := by
  obtain ⟨i, hi, hz0, hsz, hby⟩ := info_parts info_sector
  have hb2 : (i.bytes : Int) * (m : Int) ≤ 281474976710656 := by rw [hby]; omega
  have hr := run_make (P := Try.prog) w 55 99 i _ Try.underlying55 hi hz0 .i64 .i64 (m : Int) (m : Int) (by omega) (by omega) hb2 (by omega)
  rw [hr, hsz]
  simp only [Int.toNat_natCast]
  congr 3
  apply Array.ext_getElem?
  intro k
  simp only [madeCells, Value.cells, Array.getElem?_map, Array.getElem?_range, Array.getElem?_replicate, Array.size_replicate]
  by_cases hk : k < m * 128
  · have : k % 128 < 128 := Nat.mod_lt _ (by omega)
    have h2 : (Array.replicate 128 (Value.int .u8 0))[k % 128]! = .int .u8 0 := by rw [getElem!_pos (Array.replicate 128 (Value.int .u8 0)) (k % 128) (by simpa using this)]; simp
    simp [hk, h2]
  · simp [hk]
def Dk.new (n : Nat) : Dk := ⟨List.replicate n (List.replicate 128 0), [], -1, false⟩
theorem new_rows (n : Nat) : ((Dk.new n).K.map bc).flatten = List.replicate (n * 128) (.int .u8 0) := by
  have h128 : bc (List.replicate 128 0) = List.replicate 128 (.int .u8 0) := by
    unfold bc; rw [List.map_replicate]; rfl
  have hK : (Dk.new n).K = List.replicate n (List.replicate 128 0) := rfl
  rw [hK, List.map_replicate, h128, List.flatten_replicate_replicate]
theorem new_ok {n : Nat} (h1 : 1 ≤ n) (h2 : n ≤ 16384) : (Dk.new n).Ok := by
  refine ⟨by simpa [Dk.new] using h1, by simpa [Dk.new] using h2, ?_, fun p hp => (by cases hp), by simp [Dk.new], by simp [Dk.new]⟩
  intro s hs
  rw [List.eq_of_mem_replicate hs, List.length_replicate]
theorem lNew (n : Nat) (h1 : 1 ≤ n) (h2 : n ≤ 16384) (w : World) : Calls Try.prog 17 #[.int .i64 (n : Int)] w (fun en w' => ∃ D F, en = .returned (.tuple #[.pointer (some ⟨D, 0, none⟩), .int .i64 0]) ∧ DiskAt w' D F (Dk.new n) ∧ Upd Non w w' ∧ ∀ k, F k → w.heap.size ≤ k) := by
  have hmk := run_make_sectors n h2 w
  have hn1 : ((n : Int) < 1) = False := eq_false (by omega)
  have hn2 : ((16384 : Int) < (n : Int)) = False := eq_false (by omega)
  go_enter Try.func17, Try.ntmps17
  go_wp2_with fail
  go_ret2
  have hc : (Array.replicate (n * 128) (Value.int .u8 0)).toList = ((Dk.new n).K.map bc).flatten := by rw [new_rows]; simp
  refine ⟨w.heap.size + 1, fun k => k = w.heap.size + 1 ∨ k = w.heap.size, by simp, ⟨new_ok h1 h2, w.heap.size, n, .slice none 0 0, ?_, ?_, ⟨by simp [Dk.new], .inl ⟨rfl, rfl⟩⟩, by omega, by simp [At, Value.ownBlock], by simp [At, Value.ownBlock], ?_⟩, by (repeat (first | (with_reducible exact Upd.refl _ _) | (with_reducible assumption) | (with_reducible refine Upd.then_drew ?_) | (with_reducible refine Upd.then_drewN ?_ _) | (with_reducible refine Upd.then_alloc ?_ _) | (with_reducible refine Upd.then_setCell ?_ (fun h => absurd h (by simp <;> omega)) _) | (with_reducible refine Upd.trans ?_ (Upd.non (by assumption)) (fun _ _ h => h)))), fun k hk => by omega⟩
  · have := heap_alloc2_new w (.cells (Array.replicate (n * 128) (.int .u8 0)) 99) (.cells #[.slice (some ⟨w.heap.size, 0, none⟩) n n, .slice none 0 0, .int .i64 (-1), .bool false] 58)
    simpa [Dk.new] using this
  · have hx := heap_alloc2_old w (.cells (Array.replicate (n * 128) (.int .u8 0)) 99) (.cells #[.slice (some ⟨w.heap.size, 0, none⟩) n n, .slice none 0 0, .int .i64 (-1), .bool false] 58)
    have hl : (Dk.new n).K.length = n := by simp [Dk.new]
    rw [hl]
    refine ⟨by rw [← hc]; simp, .inr ⟨w.heap.size, n, _, rfl, Nat.zero_le _, hx, Nat.le_refl _, by unfold maxLen; omega, by simp, ?_⟩⟩
    rw [← hc]; simp
  · intro k; simp [At, Value.ownBlock]
theorem lNew_no (n : Int) (h : n < 1 ∨ 16384 < n) (w : World) : Calls Try.prog 17 #[.int .i64 n] w (Ret (.tuple #[.pointer none, .int .i64 2]) w) := by
  by_cases h1 : n < 1
  · clear h
    go_enter Try.func17, Try.ntmps17
    go_wp2_with fail
    go_ret2
    exact ⟨by simp, Upd.refl _ _⟩
  · have h2 : 16384 < n := by omega
    clear h
    go_enter Try.func17, Try.ntmps17
    go_wp2_with fail
    go_ret2
    exact ⟨by simp, Upd.refl _ _⟩
end Go.Proofs.Ytgdkgnolkepgdaa
