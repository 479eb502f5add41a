/- few: so many acts, so long ones. -/
import Derived.Test.YtgkiglodhhlnmaaBlP
namespace Go.Amb
open Go.RowKit
def GoodLen (a : Act4) : Prop := a.keep.length ≤ 300 ∧ a.s.length ≤ 1000
instance (a : Act4) : Decidable (GoodLen a) := inferInstanceAs (Decidable (_ ∧ _))
def few4 (l : List Act4) : Bool := decide (l.length ≤ 200 ∧ ∀ a ∈ l, GoodLen a)
theorem mem_take_step {l : List Act4} {k : Nat} (h : k < l.length) {p : Act4 → Prop} (h1 : ∀ a ∈ l.take k, p a) (h2 : p l[k]) : ∀ a ∈ l.take (k + 1), p a := by
  intro a ha
  rw [List.take_add_one, List.getElem?_eq_getElem h, Option.toList_some, List.mem_append, List.mem_singleton] at ha
  rcases ha with ha | rfl
  · exact h1 a ha
  · exact h2
end Go.Amb
namespace Go.Proofs.Ytgkiglodhhlnmaa
open Go.RowKit Go.Amb Go.Shelf
set_option linter.unusedVariables false
set_option linter.unusedSimpArgs false
set_option maxRecDepth 100000
set_option maxHeartbeats 4000000 in
theorem lFew (v : Value) (l : List Act4) (w : World) (hA : Acts w v l) : Calls Try.prog 19 #[v] w (Ret (.bool (few4 l)) w) := by
  obtain ⟨n, hn⟩ : ∃ n, l.length = n := ⟨_, rfl⟩
  have hform : ∃ a c, v = .slice a n c := by obtain ⟨_, a, c, rfl, -⟩ := hA.has; exact ⟨a, c, by rw [hn]⟩
  have hnl : n ≤ 9223372036854775807 := by obtain ⟨_, a, c, -, h1, h2, -⟩ := hA.has; unfold maxLen at h2; omega
  obtain ⟨va, vc, rfl⟩ := hform
  by_cases h200 : 200 < n
  · have h200' : (200 : Int) < (n : Int) := by omega
    have hf : few4 l = false := by unfold few4; rw [decide_eq_false_iff_not]; rintro ⟨h, -⟩; omega
    rw [hf]
    clear hA hf hn
    go_enter Try.func19, Try.ntmps19
    go_wp2_with fail
    go_ret
    exact ⟨rfl, by (repeat (first | (with_reducible exact Upd.refl _ _) | (with_reducible assumption) | (with_reducible refine Upd.then_drew ?_) | (with_reducible refine Upd.then_drewN ?_ _) | (with_reducible refine Upd.then_alloc ?_ _) | (with_reducible refine Upd.then_setCell ?_ (fun h => absurd h (by simp <;> omega)) _) | (with_reducible refine Upd.trans ?_ (Upd.non (by assumption)) (fun _ _ h => h))))⟩
  have h200' : ((200 : Int) < (n : Int)) = False := eq_false (by omega)
  have h200n : (200 < n) = False := eq_false (by omega)
  replace hA := Lib.hid hA
  replace hn := Lib.hid hn
  replace h200 := Lib.hid h200
  obtain ⟨R, hR⟩ : ∃ R : Ending → World → Prop, R = Ret (.bool (few4 l)) w := ⟨_, rfl⟩
  rw [← hR]
  replace hR := Lib.hid hR
  go_enter Try.func19, Try.ntmps19
  go_wp2_with fail
  go_loopw [3] (fun iv wr => ∃ (k : Nat), iv = .int .i64 (k : Int) ∧ k ≤ n ∧ (∀ a ∈ l.take k, GoodLen a) ∧ Upd Non w wr) (fun iv _ => n - (intOf iv).toNat)
  case atStart => exact ⟨0, rfl, by omega, by simp, Upd.refl _ _⟩
  case round =>
    obtain ⟨k, rfl, hkn, hg, hu⟩ := hrel
    by_cases hin : k < n
    · have hin' : (k : Int) < (n : Int) := by omega
      have hk0 : (0 : Int) ≤ (k : Int) := by omega
      have hkl : k < l.length := by rw [hn.out]; exact hin
      obtain ⟨g, off, c, hv, c0, c1, c2, c3⟩ := hA.out.cells hkl
      injection hv with hv e1 e2
      clear e1 e2
      subst hv
      have hga := hA.out.good _ (List.getElem_mem hkl)
      have hstep := Lib.hid (fun h => mem_take_step (p := GoodLen) hkl hg h)
      have hmem : Hid (l[k] ∈ l) := Lib.hid (List.getElem_mem hkl)
      generalize l[k] = a at *
      obtain ⟨kind, i, s, v, keep⟩ := a
      obtain ⟨hi, hsl, hI, hold⟩ := hga
      simp only at c0 c1 c2 c3 hi hsl hI hold
      have x2 := hu.cell c2 fun h => h
      have x3 := hu.cell c3 fun h => h
      obtain ⟨_, va, vc2, rfl, -⟩ := id hI
      obtain ⟨q, hq⟩ : ∃ q, keep.length = q := ⟨_, rfl⟩
      rw [hq] at x3
      have hq9 : q ≤ 9223372036854775807 := by obtain ⟨_, a, c, -, h1, h2, -⟩ := hI; unfold maxLen at h2; omega
      have hs9 : s.length ≤ 9223372036854775807 := by unfold maxLen at hsl; omega
      clear c0 c1 c2 c3 hi hsl hI hold
      replace hq := Lib.hid hq
      replace hu := Lib.hid hu
      replace hg := Lib.hid hg
      clear hkl
      have hno : Hid (¬ GoodLen ⟨kind, i, s, .slice va keep.length vc2, keep⟩ → R (.returned (.bool false)) wr) := Lib.hid (fun h => by
        rw [hR.out]
        have hf : few4 l = false := by unfold few4; rw [decide_eq_false_iff_not]; rintro ⟨-, h'⟩; exact h (h' _ hmem.out)
        rw [hf]
        exact ⟨rfl, hu.out⟩)
      by_cases h3 : 300 < q
      · have h3' : (300 : Int) < (q : Int) := by omega
        go_wp2_with fail
        exact hno.out (fun h => by have := h.1; have := hq.out; simp only at *; omega)
      · have h3' : ((300 : Int) < (q : Int)) = False := eq_false (by omega)
        have h3n : (300 < q) = False := eq_false h3
        by_cases h4 : 1000 < s.length
        · have h4' : (1000 : Int) < (s.length : Int) := by omega
          go_wp2_with fail
          exact hno.out (fun h => by have := h.2; simp only at *; omega)
        · have h4' : ((1000 : Int) < (s.length : Int)) = False := eq_false (by omega)
          have h4n : (1000 < s.length) = False := eq_false h4
          go_wp2_with fail
          go_roundw
          case rel => exact ⟨k + 1, by go_num, by omega, hstep.out ⟨by have := hq.out; simp only at *; omega, by simp only at *; omega⟩, hu.out⟩
          case measure => simp [intOf]; omega
    · obtain rfl : n = k := by omega
      have hf : few4 l = true := by
        unfold few4; rw [decide_eq_true_eq]
        refine ⟨by have := hn.out; have := h200.out; omega, fun a ha => hg a ?_⟩
        rw [List.take_of_length_le (by rw [hn.out]; exact Nat.le_refl _)]; exact ha
      replace hg := Lib.hid hg
      replace hf := Lib.hid hf
      go_wp2_with fail
      show R (.returned (.bool true)) _
      rw [hR.out, hf.out]
      exact ⟨rfl, hu⟩
end Go.Proofs.Ytgkiglodhhlnmaa
