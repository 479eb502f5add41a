/- The reference: tag's Right, Fields, letter, short. -/
import Derived.Test.YtogekobpjjmnjaaGreatMWrA
namespace Go.Proofs.YtogekobpjjmnjaaGreat
open Go.RowKit Go.Amb
set_option linter.unusedVariables false
set_option linter.unusedSimpArgs false
set_option maxRecDepth 100000
attribute [local go_sem ↓] Go.wp_at_zero Go.wp_at_succ
theorem rTagRight (re im : Int) (w : World) : Calls Tryz.prog 59 #[tagV re im] w (Ret (.bool (decide (tagOk re im))) w) := by
  unfold tagV
  have hq : decide (tagOk re im) = (decide (0 ≤ re) && (decide (re < 1048573) && (decide (0 ≤ im) && decide (im < 1048573)))) := by
    rw [Bool.eq_iff_iff]
    simp only [Bool.and_eq_true, decide_eq_true_eq]
    exact Iff.rfl
  generalize decide (tagOk re im) = bb at *
  by_cases h1 : 0 ≤ re
  · have d1 := decide_eq_true h1
    by_cases h2 : re < 1048573
    · have d2 := decide_eq_true h2
      by_cases h3 : 0 ≤ im
      · have d3 := decide_eq_true h3
        by_cases h4 : im < 1048573
        · have d4 := decide_eq_true h4
          rw [d1, d2, d3, d4] at hq
          subst hq
          go_enter Tryz.func59, Tryz.ntmps59
          go_wp2_with fail
          go_ret
          exact ⟨rfl, (Upd.refl _ _).then_alloc _⟩
        · have d4 := decide_eq_false h4
          rw [d1, d2, d3, d4] at hq
          subst hq
          go_enter Tryz.func59, Tryz.ntmps59
          go_wp2_with fail
          go_ret
          exact ⟨rfl, (Upd.refl _ _).then_alloc _⟩
      · have d3 := decide_eq_false h3
        rw [d1, d2, d3] at hq
        subst hq
        go_enter Tryz.func59, Tryz.ntmps59
        go_wp2_with fail
        go_ret
        exact ⟨rfl, (Upd.refl _ _).then_alloc _⟩
    · have d2 := decide_eq_false h2
      rw [d1, d2] at hq
      subst hq
      go_enter Tryz.func59, Tryz.ntmps59
      go_wp2_with fail
      go_ret
      exact ⟨rfl, (Upd.refl _ _).then_alloc _⟩
  · have d1 := decide_eq_false h1
    rw [d1] at hq
    subst hq
    go_enter Tryz.func59, Tryz.ntmps59
    go_wp2_with fail
    go_ret
    exact ⟨rfl, (Upd.refl _ _).then_alloc _⟩
theorem mem_snoc {l : List UInt8} {c : UInt8} (i : Nat) (h : i < l.length) (h0 : c ∉ l.take i) (h1 : l[i] ≠ c) : c ∉ l.take (i + 1) := by
  rw [List.take_add_one, List.getElem?_eq_getElem h, Option.toList_some, List.mem_append, List.mem_singleton]
  rintro (h | h)
  · exact h0 h
  · exact h1 h.symm
theorem lets_neg {k : Int} (h : k < 0) : lets k = [] := by
  unfold lets
  have : ∀ n : Int, 0 ≤ n → k ≠ n := fun n hn => by omega
  simp only [this 2 (by omega), this 3 (by omega), this 4 (by omega), this 5 (by omega), this 6 (by omega), this 7 (by omega), this 8 (by omega), this 9 (by omega), this 10 (by omega), this 11 (by omega), this 12 (by omega), this 13 (by omega), this 14 (by omega), this 15 (by omega), this 16 (by omega), this 17 (by omega), this 18 (by omega), this 19 (by omega), this 20 (by omega), this 21 (by omega), this 22 (by omega), if_false]
theorem lets_far {k : Int} (h : 24 ≤ k) : lets k = [] := by
  unfold lets
  have : ∀ n : Int, n < 24 → k ≠ n := fun n hn => by omega
  simp only [this 2 (by omega), this 3 (by omega), this 4 (by omega), this 5 (by omega), this 6 (by omega), this 7 (by omega), this 8 (by omega), this 9 (by omega), this 10 (by omega), this 11 (by omega), this 12 (by omega), this 13 (by omega), this 14 (by omega), this 15 (by omega), this 16 (by omega), this 17 (by omega), this 18 (by omega), this 19 (by omega), this 20 (by omega), this 21 (by omega), this 22 (by omega), if_false]
def tabV : Array Value := ((List.range 24).map fun j : Nat => Value.string ⟨(lets (j : Int)).toArray⟩).toArray
theorem tab_at (w : World) (t : TypeId) (j : Nat) (h : j < 24) : (w.alloc (.cells tabV t)).cell? ⟨w.heap.size, j, none⟩ = some (.string ⟨(lets j).toArray⟩) := by
  rw [((cells_of (heap_alloc_new w (.cells tabV t))).1 j)]
  unfold tabV
  simp [h]
theorem tab_lit : tabV = #[.string ⟨#[]⟩, .string ⟨#[]⟩, .string ⟨#[73]⟩, .string ⟨#[83]⟩, .string ⟨#[83]⟩, .string ⟨#[83, 66]⟩, .string ⟨#[83, 66]⟩, .string ⟨#[83]⟩, .string ⟨#[83, 66, 78]⟩, .string ⟨#[83, 66]⟩, .string ⟨#[83, 66, 79, 67, 88]⟩, .string ⟨#[83, 66, 79, 86]⟩, .string ⟨#[83, 66, 79, 86]⟩, .string ⟨#[83, 66, 79, 86]⟩, .string ⟨#[83, 66, 79, 80, 68, 78]⟩, .string ⟨#[83, 66, 79, 80, 73, 78]⟩, .string ⟨#[83, 66, 79]⟩, .string ⟨#[83, 66, 79, 73, 78, 88]⟩, .string ⟨#[83, 66, 79, 73, 76]⟩, .string ⟨#[83, 66, 79, 73]⟩, .string ⟨#[83, 66]⟩, .string ⟨#[83, 66, 79, 73]⟩, .string ⟨#[73]⟩, .string ⟨#[]⟩] := by rfl
end Go.Proofs.YtogekobpjjmnjaaGreat
