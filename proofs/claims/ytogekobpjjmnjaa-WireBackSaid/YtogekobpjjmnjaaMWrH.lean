/- The reference: tag's Right, Fields, letter, short. -/
import Derived.Test.YtogekobpjjmnjaaMWrA
namespace Go.Proofs.Ytogekobpjjmnjaa
open Go.RowKit Go.Amb
set_option linter.unusedVariables false
set_option linter.unusedSimpArgs false
set_option maxRecDepth 100000
attribute [local go_sem ↓] Go.wp_at_zero Go.wp_at_succ
theorem rTagRight (re im : Int) (w : World) : Calls Try.prog 66 #[tagV re im] w (Ret (.bool (decide (tagOk re im))) w) := by
  unfold tagV
  have hq : decide (tagOk re im) = (decide (0 ≤ re) && (decide (re < 1048573) && (decide (0 ≤ im) && decide (im < 1048573)))) := by
    rw [Bool.eq_iff_iff]
    simp only [Bool.and_eq_true, decide_eq_true_eq]
    exact Iff.rfl
  generalize decide (tagOk re im) = bb at *
  by_cases h1 : 0 ≤ re
  · have d1 := decide_eq_true h1
    by_cases h2 : re < 1048573
    · have d2 := decide_eq_true h2
      by_cases h3 : 0 ≤ im
      · have d3 := decide_eq_true h3
        by_cases h4 : im < 1048573
        · have d4 := decide_eq_true h4
          rw [d1, d2, d3, d4] at hq
          subst hq
          go_enter Try.func66, Try.ntmps66
          go_wp2_with fail
          go_ret
          exact ⟨rfl, (Upd.refl _ _).then_alloc _⟩
        · have d4 := decide_eq_false h4
          rw [d1, d2, d3, d4] at hq
          subst hq
          go_enter Try.func66, Try.ntmps66
          go_wp2_with fail
          go_ret
          exact ⟨rfl, (Upd.refl _ _).then_alloc _⟩
      · have d3 := decide_eq_false h3
        rw [d1, d2, d3] at hq
        subst hq
        go_enter Try.func66, Try.ntmps66
        go_wp2_with fail
        go_ret
        exact ⟨rfl, (Upd.refl _ _).then_alloc _⟩
    · have d2 := decide_eq_false h2
      rw [d1, d2] at hq
      subst hq
      go_enter Try.func66, Try.ntmps66
      go_wp2_with fail
      go_ret
      exact ⟨rfl, (Upd.refl _ _).then_alloc _⟩
  · have d1 := decide_eq_false h1
    rw [d1] at hq
    subst hq
    go_enter Try.func66, Try.ntmps66
    go_wp2_with fail
    go_ret
    exact ⟨rfl, (Upd.refl _ _).then_alloc _⟩
theorem rShort (s : List UInt8) (hs : s.length ≤ maxLen) (w : World) : Calls Try.prog 67 #[.string ⟨s.toArray⟩] w (Ret (.bool (decide (s.length ≤ 255))) w) := by
  unfold maxLen at hs
  have e : decide (s.length ≤ 255) = decide ((s.length : Int) ≤ 255) := by
    rw [decide_eq_decide]; omega
  rw [e]
  clear e
  go_enter Try.func67, Try.ntmps67
  go_wp2_with fail
  go_ret
  exact ⟨rfl, Upd.refl _ _⟩
theorem mem_snoc {l : List UInt8} {c : UInt8} (i : Nat) (h : i < l.length) (h0 : c ∉ l.take i) (h1 : l[i] ≠ c) : c ∉ l.take (i + 1) := by
  rw [List.take_add_one, List.getElem?_eq_getElem h, Option.toList_some, List.mem_append, List.mem_singleton]
  rintro (h | h)
  · exact h0 h
  · exact h1 h.symm
set_option maxHeartbeats 1000000 in
theorem rLetter (l : List UInt8) (c : UInt8) (hl : l.length ≤ 100) (w : World) : Calls Try.prog 68 #[.string ⟨l.toArray⟩, .int .u8 (c.toNat : Int)] w (Ret (.bool (decide (c ∈ l))) w) := by
  obtain ⟨b, hb⟩ : ∃ b, decide (c ∈ l) = b := ⟨_, rfl⟩
  rw [hb]
  have hin : Hid (c ∈ l → b = true) := Lib.hid (fun h => by rw [← hb]; exact decide_eq_true h)
  have hout : Hid (c ∉ l → b = false) := Lib.hid (fun h => by rw [← hb]; exact decide_eq_false h)
  clear hb
  go_enter Try.func68, Try.ntmps68
  go_wp2_with fail
  go_loopw [5] (fun iv wr => ∃ (k : Nat), iv = .int .i64 (k : Int) ∧ k ≤ l.length ∧ Hid (c ∉ l.take k) ∧ Upd Non w wr) (fun iv _ => l.length - (intOf iv).toNat)
  case atStart => exact ⟨0, rfl, Nat.zero_le _, Lib.hid (by simp), Upd.refl _ _⟩
  case round =>
    obtain ⟨k, rfl, hk, hno, hU⟩ := hrel
    by_cases hlt : k < l.length
    · have hltI : (k : Int) < (l.length : Int) := by omega
      have hk0 : (0 : Int) ≤ (k : Int) := by omega
      have s1 : k < (⟨l.toArray⟩ : ByteArray).size := by show k < l.toArray.size; simpa using hlt
      by_cases he : l[k] = c
      · have hn : ((((⟨l.toArray⟩ : ByteArray)[k]'s1).toNat : Int) == (c.toNat : Int)) = true := by
          show ((l[k].toNat : Int) == (c.toNat : Int)) = true
          simp [he]
        obtain rfl := hin.out (he ▸ List.getElem_mem hlt)
        go_wp2_with fail
        go_ret
        exact ⟨rfl, hU⟩
      · have hn : ((((⟨l.toArray⟩ : ByteArray)[k]'s1).toNat : Int) == (c.toNat : Int)) = false := by
          show ((l[k].toNat : Int) == (c.toNat : Int)) = false
          have : l[k].toNat ≠ c.toNat := fun e => he (UInt8.toNat_inj.1 e)
          simp
          omega
        have hs := mem_snoc k hlt hno.out he
        go_wp2_with fail
        go_roundw
        case rel => exact ⟨k + 1, by go_num, by omega, Lib.hid hs, hU⟩
        case measure => simp [intOf]; omega
    · have hltI : ¬ (k : Int) < (l.length : Int) := by omega
      obtain rfl : k = l.length := by omega
      rw [List.take_length] at hno
      obtain rfl := hout.out hno.out
      go_wp2_with fail
      go_ret
      exact ⟨rfl, hU⟩
theorem lets_neg {k : Int} (h : k < 0) : lets k = [] := by
  unfold lets
  have : ∀ n : Int, 0 ≤ n → k ≠ n := fun n hn => by omega
  simp only [this 2 (by omega), this 3 (by omega), this 4 (by omega), this 5 (by omega), this 6 (by omega), this 7 (by omega), this 8 (by omega), this 9 (by omega), this 10 (by omega), this 11 (by omega), this 12 (by omega), this 13 (by omega), this 14 (by omega), this 15 (by omega), this 16 (by omega), this 17 (by omega), this 18 (by omega), this 19 (by omega), this 20 (by omega), this 21 (by omega), this 22 (by omega), if_false]
theorem lets_far {k : Int} (h : 24 ≤ k) : lets k = [] := by
  unfold lets
  have : ∀ n : Int, n < 24 → k ≠ n := fun n hn => by omega
  simp only [this 2 (by omega), this 3 (by omega), this 4 (by omega), this 5 (by omega), this 6 (by omega), this 7 (by omega), this 8 (by omega), this 9 (by omega), this 10 (by omega), this 11 (by omega), this 12 (by omega), this 13 (by omega), this 14 (by omega), this 15 (by omega), this 16 (by omega), this 17 (by omega), this 18 (by omega), this 19 (by omega), this 20 (by omega), this 21 (by omega), this 22 (by omega), if_false]
def tabV : Array Value := ((List.range 24).map fun j : Nat => Value.string ⟨(lets (j : Int)).toArray⟩).toArray
theorem tab_at (w : World) (t : TypeId) (j : Nat) (h : j < 24) : (w.alloc (.cells tabV t)).cell? ⟨w.heap.size, j, none⟩ = some (.string ⟨(lets j).toArray⟩) := by
  rw [((cells_of (heap_alloc_new w (.cells tabV t))).1 j)]
  unfold tabV
  simp [h]
theorem tab_lit : tabV = #[.string ⟨#[]⟩, .string ⟨#[]⟩, .string ⟨#[73]⟩, .string ⟨#[83]⟩, .string ⟨#[83]⟩, .string ⟨#[83, 66]⟩, .string ⟨#[83, 66]⟩, .string ⟨#[83]⟩, .string ⟨#[83, 66, 78]⟩, .string ⟨#[83, 66]⟩, .string ⟨#[83, 66, 79, 67, 88]⟩, .string ⟨#[83, 66, 79, 86]⟩, .string ⟨#[83, 66, 79, 86]⟩, .string ⟨#[83, 66, 79, 86]⟩, .string ⟨#[83, 66, 79, 80, 68, 78]⟩, .string ⟨#[83, 66, 79, 80, 73, 78]⟩, .string ⟨#[83, 66, 79]⟩, .string ⟨#[83, 66, 79, 73, 78, 88]⟩, .string ⟨#[83, 66, 79, 73, 76]⟩, .string ⟨#[83, 66, 79, 73]⟩, .string ⟨#[83, 66]⟩, .string ⟨#[83, 66, 79, 73]⟩, .string ⟨#[73]⟩, .string ⟨#[]⟩] := by rfl
set_option maxHeartbeats 1000000 in
theorem rFields (k : Int) (w : World) : Calls Try.prog 12 #[.int .i64 k] w (Ret (.string ⟨(lets k).toArray⟩) w) := by
  by_cases h0 : 0 ≤ k
  · by_cases h1 : k < 24
    · obtain ⟨j, rfl⟩ := Int.eq_ofNat_of_zero_le h0
      have hj : j < 24 := by omega
      have hc := fun t => tab_at w t j hj
      rw [tab_lit] at hc
      generalize (lets (j : Int)).toArray = a at *
      go_enter Try.func12, Try.ntmps12
      go_wp2_with fail
      go_ret
      exact ⟨rfl, (Upd.refl _ _).then_alloc _⟩
    · rw [lets_far (by omega)]
      go_enter Try.func12, Try.ntmps12
      go_wp2_with fail
      go_ret
      exact ⟨rfl, (Upd.refl _ _).then_alloc _⟩
  · rw [lets_neg (by omega)]
    go_enter Try.func12, Try.ntmps12
    go_wp2_with fail
    go_ret
    exact ⟨rfl, (Upd.refl _ _).then_alloc _⟩
end Go.Proofs.Ytogekobpjjmnjaa
