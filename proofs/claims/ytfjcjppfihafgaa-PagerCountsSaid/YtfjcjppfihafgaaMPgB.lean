/- The walks over package pager: made, there, taken, drop, Release. -/
import Derived.Test.YtfjcjppfihafgaaMPgA
namespace Go.Proofs.Ytfjcjppfihafgaa
set_option maxRecDepth 100000
open Go.RowKit Go.Amb
set_option linter.unusedVariables false
set_option linter.unusedSimpArgs false
theorem cells4 {w : World} {b : Nat} {c0 c1 c2 c3 : Value} {t : TypeId} (h : w.heap[b]? = some (.cells #[c0, c1, c2, c3] t (0, 0))) : w.cell? ⟨b, 0, none⟩ = some c0 ∧ w.cell? ⟨b, 1, none⟩ = some c1 ∧ w.cell? ⟨b, 2, none⟩ = some c2 ∧ w.cell? ⟨b, 3, none⟩ = some c3 :=
  ⟨(cells_of h).1 0, (cells_of h).1 1, (cells_of h).1 2, (cells_of h).1 3⟩
theorem getD_lt4 {st : List Nat} (h : ∀ s ∈ st, s < 4) (i : Nat) : st.getD i 0 < 4 := by
  rw [List.getD_eq_getElem?_getD]
  by_cases hi : i < st.length
  · rw [List.getElem?_eq_getElem hi]; exact h _ (List.getElem_mem hi)
  · rw [List.getElem?_eq_none (by omega)]; decide
theorem set_lt4 {st : List Nat} (h : ∀ s ∈ st, s < 4) (i v : Nat) (hv : v < 4) : ∀ s ∈ st.set i v, s < 4 := by
  intro s hs
  rcases List.mem_or_eq_of_mem_set hs with h1 | rfl
  · exact h s h1
  · exact hv
theorem stB_keep {st : List Nat} {i v : Nat} (hi : i < st.length) (h : st.getD i 0 ≠ 0) (hv : v ≠ 0) : stB (st.set i v) = stB st := by
  apply Nat.eq_of_testBit_eq
  intro j
  rw [stB_set st i hi v, putN_bit]
  by_cases hij : i = j
  · subst hij; rw [if_pos rfl, stB_bit]; simp only [h, hv, ne_eq, not_false_eq_true, decide_true]
  · rw [if_neg hij]
section
variable {w0 w w' : World} {P D : Nat} {F F' : Nat → Prop} {r g I fr : Nat} {st : List Nat} {B : Nat} {d : Dk}
theorem gMade (h : Pb w0 w P D F r g I fr st B d) : Calls Try.prog 23 #[.pointer (some ⟨P, 0, none⟩)] w (Ret (.bool true) w) := by
  obtain ⟨p0, p1, p2, p3⟩ := cells4 h.cell
  clear h
  go_enter Try.func23, Try.ntmps23
  go_wp2_with fail
  go_ret
  exact ⟨rfl, Upd.refl _ _⟩
theorem gThere (h : Pb w0 w P D F r g I fr st B d) (i : Int) : Calls Try.prog 27 #[.pointer (some ⟨P, 0, none⟩), .int .i64 i] w (Ret (.bool (decide (0 ≤ i ∧ i < (st.length : Int)))) w) := by
  obtain ⟨p0, p1, p2, p3⟩ := cells4 h.cell
  have hn := h.al.most
  clear h
  generalize st.length = n at *
  by_cases h0 : 0 ≤ i
  · have e : decide (0 ≤ i ∧ i < (n : Int)) = decide (i < (n : Int)) := by simp [h0]
    rw [e]
    clear e
    go_enter Try.func27, Try.ntmps27
    go_wp2_with fail
    go_ret
    exact ⟨rfl, Upd.refl _ _⟩
  · have e : decide (0 ≤ i ∧ i < (n : Int)) = false := by simp [h0]
    have h0b : decide (0 ≤ i) = false := decide_eq_false h0
    rw [e]
    clear e
    go_enter Try.func27, Try.ntmps27
    go_wp2_with fail
    go_ret
    exact ⟨rfl, Upd.refl _ _⟩
theorem gTaken (s : Nat) (w : World) : Calls Try.prog 28 #[.int .i64 (s : Int)] w (Ret (.bool (decide (s ≠ 0))) w) := by
  go_enter Try.func28, Try.ntmps28
  go_wp2_with fail
  go_ret
  refine ⟨?_, Upd.refl _ _⟩
  show Ending.returned (.bool ((s : Int) != 0)) = .returned (.bool (decide (s ≠ 0)))
  by_cases h : s = 0
  · subst h; rfl
  · have e : ((s : Int) != 0) = true := by simp; omega
    rw [e, decide_eq_true h]
theorem gDrop (h : Pb w0 w P D F r g I fr st (stB st) d) (i : Nat) (hi : i < st.length) (h0 : st.getD i 0 ≠ 0) :
    Calls Try.prog 31 #[.pointer (some ⟨P, 0, none⟩), .int .i64 (i : Int)] w (fun en w' => en = .returned (.tuple #[]) ∧ Pb w0 w' P D F r g I fr (st.set i 0) (stB (st.set i 0)) d ∧ Upd (fun k => k = g ∨ k = I) w w') := by
  obtain ⟨p0, p1, p2, p3⟩ := cells4 h.cell
  have hn := h.al.most
  have hG := Lib.hid (aGive r g st.length (stB st) (i : Int) 1 w h.al (by omega) (by decide))
  rw [give_st hi h0] at hG
  have hb := Lib.hid h
  have hiI : (i : Int) < (st.length : Int) := by omega
  have hi0 : (0 : Int) ≤ (i : Int) := by omega
  replace hi := Lib.hid hi
  clear h h0
  go_enter Try.func31, Try.ntmps31
  go_wp2_with fail
  refine hG.out.mono ?_
  rintro en w1 ⟨rfl, ha, hu⟩
  have h1 := hb.out.alloc ha hu
  clear ha p0 p1 p2 p3
  obtain ⟨p0, p1, p2, p3⟩ := cells4 h1.cell
  obtain ⟨x0, f0⟩ := h1.at i hi.out
  have h2 := Lib.hid (h1.set i 0)
  have hu2 := Lib.hid (((hu.mono (T := fun k => k = g ∨ k = I) fun k _ e => .inl e)).trans (Pb.upd_set w1 I i (.int .i64 0)) fun k hk e => .inr e)
  clear hu h1
  go_wp2_with fail
  go_returns
  exact ⟨rfl, h2.out, hu2.out⟩
end
end Go.Proofs.Ytfjcjppfihafgaa
