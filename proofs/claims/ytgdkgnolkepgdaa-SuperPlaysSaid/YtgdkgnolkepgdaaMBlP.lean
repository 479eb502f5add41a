/- begun: acts on a new disk. -/
import Derived.Test.YtgdkgnolkepgdaaMBlN
import Derived.Test.YtgdkgnolkepgdaaMLibC
namespace Go.Amb
open Go.RowKit
/-- An act: kind, number, text, the slice of numbers and what it holds. -/
structure Act4 where
  kind : Int
  i : Int
  s : List UInt8
  v : Value
  keep : List Int
def ac (a : Act4) : List Value := [.int .i64 a.kind, .int .i64 a.i, .string ⟨a.s.toArray⟩, a.v]
/-- What an act does. -/
def doAct (d : Dk) (a : Act4) : Dk := if a.kind = 1 then d.flush.1 else if a.kind = 2 then d.crash a.keep else if a.kind = 3 then (d.arm a.i).1 else (d.write a.i a.s).1
theorem keep_P (d : Dk) (f : Nat → Bool) : (d.keep f).P.length = 0 := rfl
theorem flush_P (d : Dk) : d.flush.1.P.length ≤ d.P.length := by
  unfold Dk.flush
  split
  · exact Nat.le_refl _
  · split
    · rw [Dk.burn_P]; exact Nat.le_refl _
    · rw [keep_P]; exact Nat.zero_le _
theorem crash_P (d : Dk) (l : List Int) : (d.crash l).P.length = 0 := rfl
theorem arm_P (d : Dk) (n : Int) : (d.arm n).1.P = d.P := by unfold Dk.arm; split <;> rfl
theorem write_P (d : Dk) (i : Int) (s : List UInt8) : (d.write i s).1.P.length ≤ d.P.length + 1 := by
  unfold Dk.write
  split
  · exact Nat.le_succ _
  · split
    · exact Nat.le_succ _
    · split
      · rw [Dk.burn_P]; exact Nat.le_succ _
      · simp only [List.length_append, List.length_cons, List.length_nil, Dk.burn_P]; omega
theorem doAct_P (d : Dk) (a : Act4) : (doAct d a).P.length ≤ d.P.length + 1 := by
  unfold doAct
  split
  · have := flush_P d; omega
  · split
    · rw [crash_P]; omega
    · split
      · rw [arm_P]; omega
      · exact write_P d a.i a.s
def begunD (l : List Act4) (k : Nat) : Dk := (l.take k).foldl doAct ⟨List.replicate 8 (List.replicate 128 0), [], -1, false⟩
theorem begunD_succ (l : List Act4) (k : Nat) (h : k < l.length) : begunD l (k + 1) = doAct (begunD l k) l[k] := by
  unfold begunD
  rw [List.take_succ_eq_append_getElem h, List.foldl_append]; rfl
theorem begunD_P (l : List Act4) : ∀ k, (begunD l k).P.length ≤ k
  | 0 => by simp [begunD]
  | k + 1 => by
    by_cases h : k < l.length
    · rw [begunD_succ l k h]
      have h1 := doAct_P (begunD l k) l[k]
      have h2 := begunD_P l k
      omega
    · have h1 : begunD l (k + 1) = begunD l k := by unfold begunD; rw [List.take_of_length_le (by omega), List.take_of_length_le (by omega)]
      rw [h1]
      have h2 := begunD_P l k
      omega
end Go.Amb
namespace Go.Proofs.Ytgdkgnolkepgdaa
open Go.RowKit Go.Amb Go.Shelf
set_option linter.unusedVariables false
set_option linter.unusedSimpArgs false
set_option maxRecDepth 100000
/-- An act that came in. -/
structure GoodAct (W : World) (a : Act4) : Prop where
  i : a.i < 9223372036854775808
  s : a.s.length ≤ maxLen
  has : Ints W a.v a.keep
  old : 0 < a.keep.length → ∀ k, At a.v k → k < W.heap.size
/-- Acts that came in. -/
structure Acts (W : World) (v : Value) (l : List Act4) : Prop where
  has : Has W 4 v l.length (l.map ac).flatten
  good : ∀ a ∈ l, GoodAct W a
theorem ac_length (l : List Act4) : ∀ s ∈ l.map ac, s.length = 4 := by
  intro s hs
  obtain ⟨x, hx, rfl⟩ := List.mem_map.1 hs
  rfl
/-- The cells of act k. -/
theorem Acts.cells {W : World} {v : Value} {l : List Act4} (h : Acts W v l) {k : Nat} (hk : k < l.length) : ∃ g off c, v = .slice (some ⟨g, off, none⟩) l.length c ∧
    W.cell? ⟨g, off + k * 4, none⟩ = some (.int .i64 l[k].kind) ∧ W.cell? ⟨g, off + k * 4 + 1, none⟩ = some (.int .i64 l[k].i) ∧ W.cell? ⟨g, off + k * 4 + 2, none⟩ = some (.string ⟨l[k].s.toArray⟩) ∧ W.cell? ⟨g, off + k * 4 + 3, none⟩ = some l[k].v := by
  obtain ⟨_, a, c, rfl, -, -, h3⟩ := h.has
  obtain ⟨g, off, rfl, hc⟩ := h3.resolve_left (by omega)
  have hg : ∀ j (hj : j < 4), W.cell? ⟨g, off + (k * 4 + j), none⟩ = some ((ac l[k])[j]'(by simpa [ac] using hj)) := fun j hj => hc _ _ (by
    have := fl_get (m := 4) (L := l.map ac) (ac_length l) k j (by rw [List.length_map]; exact hk) hj
    rw [this, List.getElem_map, List.getElem?_eq_getElem (by simpa [ac] using hj)])
  refine ⟨g, off, c, rfl, hg 0 (by omega), ?_, ?_, ?_⟩
  · rw [Nat.add_assoc]; exact hg 1 (by omega)
  · rw [Nat.add_assoc]; exact hg 2 (by omega)
  · rw [Nat.add_assoc]; exact hg 3 (by omega)
end Go.Proofs.Ytgdkgnolkepgdaa
