/- An alloc's block and its words' make an alloc. -/
import Derived.Test.YtfjcjppfihafgaaMAN
import Derived.Deep.RegionHeld3
import Derived.Laws.MakeOwn
namespace Go.Proofs.Ytfjcjppfihafgaa
set_option maxRecDepth 100000
open Go.RowKit Go.Amb
set_option linter.unusedVariables false
theorem info_u64 : (Try.prog.info? 90).map (fun i => (i.zero, i.size, i.bytes)) = some (some (.int .u64 0), 1, 8) := rfl
theorem AllocAt.make {w w2 : World} {g n B m cap : Nat} (hn : 1 ≤ n ∧ n ≤ 16384) (hb : B < 2 ^ n) (hm : m = (n + 63) / 64) (hc : m ≤ cap) (hc2 : cap ≤ maxLen)
    (hg : g < w.heap.size) (hw : ∀ j, j < m → w.cell? ⟨g, j, none⟩ = some (.int .u64 (wordN B j : Int)) ∧ w.frozen? ⟨g, j, none⟩ = false) (h : w2 = (w.alloc (.cells #[.int .i64 (n : Int), .slice (some ⟨g, 0, none⟩) m cap] 76)) ) : AllocAt w2 w.heap.size g n B := by
  subst hm; subst h
  have hu := Upd.alloc Non w (.cells #[.int .i64 (n : Int), .slice (some ⟨g, 0, none⟩) ((n + 63) / 64) cap] 76)
  have hN := cells_of (heap_alloc_new w (.cells #[.int .i64 (n : Int), .slice (some ⟨g, 0, none⟩) ((n + 63) / 64) cap] 76))
  refine ⟨hn.1, hn.2, hb, by omega, (hN.1 0).trans rfl, ⟨cap, hc, hc2, (hN.1 1).trans rfl⟩, fun j hj => ⟨hu.cell (hw j hj).1 fun h => h, (World.frozen?_of_block (a := ⟨g, j, none⟩) (hu.block g hg fun h => h)).trans (hw j hj).2⟩, ?_⟩
  simp; omega
end Go.Proofs.Ytfjcjppfihafgaa

namespace Go.Proofs.Ytfjcjppfihafgaa
set_option maxRecDepth 100000
open Go.RowKit Go.Amb
set_option linter.unusedVariables false

/-- 'make([]T, m)', the element of one cell. -/
theorem run_make1 {t e : TypeId} {z : Value} {bytes : Nat} (ht : Try.prog.underlying t = some (.slice e)) (hinfo : (Try.prog.info? e).map (fun i => (i.zero, i.size, i.bytes)) = some (some z, 1, bytes)) (hz : z.cells = #[z]) (m : Nat) (hm : m ≤ 9223372036854775807) (hb : bytes * m ≤ 281474976710656) (w : World) :
    (Instr.makeSlice t (.int .i64 (m : Int)) (.int .i64 (m : Int))).run Try.prog w = .ok (.slice (some ⟨w.heap.size, 0, none⟩) m m) (w.alloc (.cells (Array.replicate m z) e)) := by
  obtain ⟨i, hi, hz0, hsz, hby⟩ := info_parts hinfo
  have hb2 : (i.bytes : Int) * (m : Int) ≤ 281474976710656 := by
    have h1 : ((bytes * m : Nat) : Int) ≤ 281474976710656 := by omega
    rw [hby]
    rwa [Int.natCast_mul] at h1
  have hr := run_make (P := Try.prog) w t e i z ht hi hz0 .i64 .i64 (m : Int) (m : Int) (by omega) (by omega) hb2 (by omega)
  rw [hr, hsz, hz]
  simp only [Int.toNat_natCast, Nat.mul_one]
  congr 3
  apply Array.ext_getElem?
  intro k
  simp only [madeCells, Array.getElem?_map, Array.getElem?_range, Array.getElem?_replicate]
  by_cases hk : k < m <;> simp [hk, Nat.mod_one]
theorem wordN_zero (j : Nat) : wordN 0 j = 0 := by simp [wordN]
set_option maxHeartbeats 1000000 in
theorem aNew_bad (n : Int) (w : World) (h : n < 1 ∨ 16384 < n) : Calls Try.prog 22 #[.int .i64 n] w (Ret (.tuple #[.pointer none, .int .i64 2]) w) := by
  by_cases h1 : n < 1
  · go_enter Try.func22, Try.ntmps22
    go_wp2_with fail
    go_ret2
    exact ⟨rfl, Upd.refl _ _⟩
  · have h2 : 16384 < n := by omega
    clear h
    go_enter Try.func22, Try.ntmps22
    go_wp2_with fail
    go_ret2
    exact ⟨rfl, Upd.refl _ _⟩
/-- A new alloc, no page of it taken. -/
def Newed (n : Nat) (w : World) : Ending → World → Prop := fun e w' => ∃ r g, e = .returned (.tuple #[.pointer (some ⟨r, 0, none⟩), .int .i64 0]) ∧ AllocAt w' r g n 0 ∧ Upd Non w w' ∧ w.heap.size ≤ r ∧ w.heap.size ≤ g
set_option maxHeartbeats 1000000 in
theorem aNew (n : Nat) (w : World) (h : 1 ≤ n ∧ n ≤ 16384) : Calls Try.prog 22 #[.int .i64 (n : Int)] w (Newed n w) := by
  have h1 : ¬ (n : Int) < 1 := by omega
  have h2 : ¬ (16384 : Int) < (n : Int) := by omega
  have hq : ((n : Int) + 64 - 1).tdiv 64 = (((n + 63) / 64 : Nat) : Int) := by
    rw [show (n : Int) + 64 - 1 = ((n + 63 : Nat) : Int) by omega]; rfl
  have hm : (n + 63) / 64 ≤ 256 := by omega
  have hmm : Hid (((n + 63) / 64) = (n + 63) / 64) := rfl
  have h0 := Lib.hid h
  clear h
  generalize hmd : (n + 63) / 64 = m at hq hm
  have hmk := run_make1 Try.underlying74 info_u64 rfl m (by omega) (by omega)
  replace hmd := Lib.hid hmd
  go_enter Try.func22, Try.ntmps22
  go_wp2_with fail
  go_ret2
  have hN := cells_of (heap_alloc_new w (.cells (Array.replicate m (.int .u64 0)) 90))
  have hA := AllocAt.make (w := w.alloc (.cells (Array.replicate m (.int .u64 0)) 90)) (B := 0) (cap := m) h0.out (Nat.two_pow_pos _) hmd.out.symm (Nat.le_refl _) (by unfold maxLen; omega) (by simp) (fun j hj => ⟨(hN.1 j).trans (by rw [wordN_zero, Array.getElem?_replicate, if_pos hj]; rfl), hN.2 j⟩) rfl
  rw [show (w.alloc (.cells (Array.replicate m (.int .u64 0)) 90)).heap.size = w.heap.size + 1 by simp] at hA
  exact ⟨_, w.heap.size, rfl, hA, ((Upd.refl _ _).then_alloc _).then_alloc _, by simp, Nat.le_refl _⟩
end Go.Proofs.Ytfjcjppfihafgaa
