/- slices.Contains; Flush, Crash. -/
import Derived.Test.YtfjcjppfihafgaaMBlJ
namespace Go.Proofs.Ytfjcjppfihafgaa
open Go.RowKit Go.Amb Go.Shelf
set_option linter.unusedVariables false
set_option linter.unusedSimpArgs false
set_option maxRecDepth 100000
/-- A slice reads as integers. -/
abbrev Ints (w : World) (v : Value) (l : List Int) : Prop := Has w 1 v l.length (l.map (.int .i64))
theorem lIndex (v : Value) (l : List Int) (x : Int) (w : World) (hB : Ints w v l) : Calls Try.prog 48 #[v, .int .i64 x] w (fun en w' => (∃ r, en = .returned (.int .i64 r) ∧ (0 ≤ r ↔ x ∈ l)) ∧ Upd Non w w') := by
  obtain ⟨_, a, c, rfl, h1, h2, h3⟩ := hB
  have hl : l.length ≤ 9223372036854775807 := by unfold maxLen at h2; omega
  clear h1 h2
  replace h3 := Lib.hid h3
  generalize hn : l.length = n at *
  go_enter Try.func48, Try.ntmps48
  go_wp2_with fail
  go_loopw [8] (fun iv wr => ∃ i : Nat, iv = .int .i64 (i : Int) ∧ i ≤ n ∧ Hid (∀ j (hj : j < l.length), j < i → l[j] ≠ x) ∧ wr = w) (fun iv _ => n - (intOf iv).toNat)
  case atStart => exact ⟨0, rfl, by omega, Lib.hid (fun j hj h => by omega), rfl⟩
  case round =>
    obtain ⟨i, rfl, hi, hne, rfl⟩ := hrel
    by_cases hin : i < n
    · have hin' : (i : Int) < (n : Int) := by omega
      have hi0 : (0 : Int) ≤ (i : Int) := by omega
      obtain ⟨g, off, rfl, hc⟩ := h3.out.resolve_left (by omega)
      have hil : i < l.length := by omega
      have x0 := hc i (.int .i64 l[i]) (by rw [List.getElem?_map, List.getElem?_eq_getElem hil]; rfl)
      by_cases he : l[i] = x
      · rw [he] at x0
        have hmem : x ∈ l := he ▸ List.getElem_mem hil
        replace hmem := Lib.hid hmem
        clear hc he
        go_wp2_with fail
        go_ret
        exact ⟨⟨_, rfl, by constructor; intro _; exact hmem.out; intro _; exact hi0⟩, Upd.refl _ _⟩
      · obtain ⟨y, hy⟩ : ∃ y, l[i] = y := ⟨_, rfl⟩
        rw [hy] at x0 he
        have he1 : (x = y) = False := eq_false (fun h => he h.symm)
        have he2 : (y = x) = False := eq_false he
        have he3 : (x == y) = false := by simp [he1]
        clear hc
        replace he := Lib.hid he
        replace hy := Lib.hid hy
        go_wp2_with fail
        go_roundw
        case rel =>
          refine ⟨i + 1, by go_num, by omega, Lib.hid (fun j hj h => ?_), trivial⟩
          rcases Nat.lt_succ_iff_lt_or_eq.1 h with h | rfl
          · exact hne.out j hj h
          · rw [hy.out]; exact he.out
        case measure => simp [intOf]; omega
    · obtain rfl : i = n := by omega
      have hin' : ¬ (i : Int) < (i : Int) := by omega
      go_wp2_with fail
      go_ret
      refine ⟨⟨_, rfl, by simp; intro hx; obtain ⟨j, hj, rfl⟩ := List.mem_iff_getElem.1 hx; exact hne.out j hj (by omega) rfl⟩, Upd.refl _ _⟩
theorem lContains (v : Value) (l : List Int) (x : Int) (w : World) (hB : Ints w v l) : Calls Try.prog 33 #[v, .int .i64 x] w (Ret (.bool (decide (x ∈ l))) w) := by
  have cI := lIndex v l x w hB
  obtain ⟨_, a, c, rfl, -⟩ := hB
  by_cases hx : x ∈ l
  · rw [decide_eq_true hx]
    go_enter Try.func33, Try.ntmps33
    go_wp2_with fail
    refine cI.mono ?_
    rintro en w1 ⟨⟨r, rfl, hr⟩, hu⟩
    have h0 := hr.2 hx
    clear hr
    go_wp2_with fail
    go_ret
    exact ⟨by simp [h0], hu⟩
  · rw [decide_eq_false hx]
    go_enter Try.func33, Try.ntmps33
    go_wp2_with fail
    refine cI.mono ?_
    rintro en w1 ⟨⟨r, rfl, hr⟩, hu⟩
    have h0 : ¬ 0 ≤ r := fun h => hx (hr.1 h)
    have h1 : (0 ≤ r) = False := eq_false h0
    clear hr h0
    go_wp2_with fail
    go_ret
    exact ⟨by simp [h1], hu⟩
theorem lPick (v : Value) (l : List Int) (x : Int) (w : World) (bx : Nat) (hb : w.cell? ⟨bx, 0, none⟩ = some v) (hB : Ints w v l) : Calls Try.prog 52 #[.int .i64 x, .pointer (some ⟨bx, 0, none⟩)] w (Ret (.bool (decide (x ∈ l))) w) := by
  have cC := lContains v l x w hB
  obtain ⟨_, a, c, rfl, -⟩ := hB
  go_enter Try.func52, Try.ntmps52
  go_wp2_with fail
  refine cC.mono ?_
  rintro en w1 ⟨rfl, hu⟩
  go_wp2_with fail
  go_ret
  exact ⟨rfl, hu⟩
end Go.Proofs.Ytfjcjppfihafgaa
