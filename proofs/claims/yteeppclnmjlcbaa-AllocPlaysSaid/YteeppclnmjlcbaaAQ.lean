/- The walk over alloc.New. -/
import Derived.Test.YteeppclnmjlcbaaAP
import Derived.Laws.MakeOwn
namespace Go.Proofs.Yteeppclnmjlcbaa
open Go.RowKit Go.Amb
set_option linter.unusedVariables false

/-- 'make([]T, m)', the element of one cell. -/
theorem run_make1 {t e : TypeId} {z : Value} {bytes : Nat} (ht : Try.prog.underlying t = some (.slice e)) (hinfo : (Try.prog.info? e).map (fun i => (i.zero, i.size, i.bytes)) = some (some z, 1, bytes)) (hz : z.cells = #[z]) (m : Nat) (hm : m ≤ 9223372036854775807) (hb : bytes * m ≤ 281474976710656) (w : World) :
    (Instr.makeSlice t (.int .i64 (m : Int)) (.int .i64 (m : Int))).run Try.prog w = .ok (.slice (some ⟨w.heap.size, 0, none⟩) m m) (w.alloc (.cells (Array.replicate m z) e)) := by
  obtain ⟨i, hi, hz0, hsz, hby⟩ := info_parts hinfo
  have hb2 : (i.bytes : Int) * (m : Int) ≤ 281474976710656 := by
    have h1 : ((bytes * m : Nat) : Int) ≤ 281474976710656 := by omega
    rw [hby]
    rwa [Int.natCast_mul] at h1
  have hr := run_make (P := Try.prog) w t e i z ht hi hz0 .i64 .i64 (m : Int) (m : Int) (by omega) (by omega) hb2 (by omega)
  rw [hr, hsz, hz]
  simp only [Int.toNat_natCast, Nat.mul_one]
  congr 3
  apply Array.ext_getElem?
  intro k
  simp only [madeCells, Array.getElem?_map, Array.getElem?_range, Array.getElem?_replicate]
  by_cases hk : k < m <;> simp [hk, Nat.mod_one]
theorem wordN_zero (j : Nat) : wordN 0 j = 0 := by simp [wordN]
set_option maxHeartbeats 1000000 in
theorem aNew_bad (n : Int) (w : World) (h : n < 1 ∨ 16384 < n) : Calls Try.prog 16 #[.int .i64 n] w (Ret (.tuple #[.pointer none, .int .i64 2]) w) := by
  by_cases h1 : n < 1
  · go_enter Try.func16, Try.ntmps16
    go_wp2_with fail
    go_ret2
    exact ⟨rfl, Upd.refl _ _⟩
  · have h2 : 16384 < n := by omega
    clear h
    go_enter Try.func16, Try.ntmps16
    go_wp2_with fail
    go_ret2
    exact ⟨rfl, Upd.refl _ _⟩
/-- A new alloc, no page of it taken. -/
def Newed (n : Nat) (w : World) : Ending → World → Prop := fun e w' => ∃ r g, e = .returned (.tuple #[.pointer (some ⟨r, 0, none⟩), .int .i64 0]) ∧ AllocAt w' r g n 0 ∧ Upd Non w w' ∧ w.heap.size ≤ r ∧ w.heap.size ≤ g
set_option maxHeartbeats 1000000 in
theorem aNew (n : Nat) (w : World) (h : 1 ≤ n ∧ n ≤ 16384) : Calls Try.prog 16 #[.int .i64 (n : Int)] w (Newed n w) := by
  have h1 : ¬ (n : Int) < 1 := by omega
  have h2 : ¬ (16384 : Int) < (n : Int) := by omega
  have hq : ((n : Int) + 64 - 1).tdiv 64 = (((n + 63) / 64 : Nat) : Int) := by
    rw [show (n : Int) + 64 - 1 = ((n + 63 : Nat) : Int) by omega]; rfl
  have hm : (n + 63) / 64 ≤ 256 := by omega
  have hmm : Hid (((n + 63) / 64) = (n + 63) / 64) := rfl
  have h0 := Lib.hid h
  clear h
  generalize hmd : (n + 63) / 64 = m at hq hm
  have hmk := run_make1 Try.underlying53 info_u64 rfl m (by omega) (by omega)
  replace hmd := Lib.hid hmd
  go_enter Try.func16, Try.ntmps16
  go_wp2_with fail
  go_ret2
  have hN := cells_of (heap_alloc_new w (.cells (Array.replicate m (.int .u64 0)) 59))
  have hA := AllocAt.make (w := w.alloc (.cells (Array.replicate m (.int .u64 0)) 59)) (B := 0) (cap := m) h0.out (Nat.two_pow_pos _) hmd.out.symm (Nat.le_refl _) (by unfold maxLen; omega) (by simp) (fun j hj => ⟨(hN.1 j).trans (by rw [wordN_zero, Array.getElem?_replicate, if_pos hj]; rfl), hN.2 j⟩) rfl
  rw [show (w.alloc (.cells (Array.replicate m (.int .u64 0)) 59)).heap.size = w.heap.size + 1 by simp] at hA
  exact ⟨_, w.heap.size, rfl, hA, ((Upd.refl _ _).then_alloc _).then_alloc _, by simp, Nat.le_refl _⟩
end Go.Proofs.Yteeppclnmjlcbaa
