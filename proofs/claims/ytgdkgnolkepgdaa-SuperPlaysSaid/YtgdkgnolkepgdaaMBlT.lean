/- Eight slices of texts beside a disk. -/
import Derived.Test.YtgdkgnolkepgdaaMBlS
namespace Go.Amb
open Go.RowKit
def strV (s : List UInt8) : Value := .string ⟨s.toArray⟩
end Go.Amb
namespace Go.Proofs.Ytgdkgnolkepgdaa
set_option maxRecDepth 100000
open Go.RowKit Go.Amb Go.Shelf
set_option linter.unusedVariables false
set_option linter.unusedSimpArgs false
/-- At block Mb lie eight slices of texts, each in a row of its own; none is the disk's. -/
structure MayAt (B : Nat) (w : World) (Mb : Nat) (F : Nat → Prop) (M : Nat → List (List UInt8)) (vs : Nat → Value) : Prop where
  cell : ∀ i, i < 8 → w.cell? ⟨Mb, i, none⟩ = some (vs i)
  free : ∀ i, i < 8 → w.frozen? ⟨Mb, i, none⟩ = false
  own : ∀ i, i < 8 → w.ownsRow B 9 1 (vs i) (M i).length ((M i).map strV)
  dis : ∀ i, i < 8 → ∀ k, At (vs i) k → k ≠ Mb ∧ ¬ F k ∧ ∀ j, j < 8 → j ≠ i → ¬ At (vs j) k
  nF : ¬ F Mb
  lo : B ≤ Mb
theorem MayAt.lt {B : Nat} {w : World} {Mb : Nat} {F : Nat → Prop} {M : Nat → List (List UInt8)} {vs : Nat → Value} (h : MayAt B w Mb F M vs) : Mb < w.heap.size := World.block_lt_of_cell? w _ (h.cell 0 (by omega))
theorem MayAt.keep {B : Nat} {w w' : World} {Mb : Nat} {F F' : Nat → Prop} {M : Nat → List (List UInt8)} {vs : Nat → Value} (h : MayAt B w Mb F M vs) (hk : Kp w F w' F') : MayAt B w' Mb F' M vs := by
  have hl := h.lt
  refine ⟨fun i hi => hk.upd.cell (h.cell i hi) h.nF, fun i hi => (World.frozen?_of_block (a := ⟨Mb, i, none⟩) (hk.upd.block Mb hl h.nF)).trans (h.free i hi), fun i hi => hk.upd.owns (h.own i hi) fun k hat => (h.dis i hi k hat).2.1, fun i hi k hat => ⟨(h.dis i hi k hat).1, fun hF => ?_, (h.dis i hi k hat).2.2⟩, fun hF => ?_, h.lo⟩
  · rcases hk.own k hF with h1 | h1
    · exact (h.dis i hi k hat).2.1 h1
    · have := own_lt (h.own i hi) hat; omega
  · rcases hk.own Mb hF with h1 | h1
    · exact h.nF h1
    · omega
theorem MayAt.non {B : Nat} {w w' : World} {Mb : Nat} {F : Nat → Prop} {M : Nat → List (List UInt8)} {vs : Nat → Value} (h : MayAt B w Mb F M vs) (hu : Upd Non w w') : MayAt B w' Mb F M vs := h.keep (Kp.non hu)
/-- One text more at i. -/
def addM (M : Nat → List (List UInt8)) (i : Nat) (s : List UInt8) : Nat → List (List UInt8) := fun j => if j = i then M i ++ [s] else M j
def setV (vs : Nat → Value) (i : Nat) (v : Value) : Nat → Value := fun j => if j = i then v else vs j
theorem MayAt.add {B : Nat} {w w5 : World} {Mb : Nat} {F : Nat → Prop} {M : Nat → List (List UInt8)} {vs : Nat → Value} (h : MayAt B w Mb F M vs) {i : Nat} (hi : i < 8) {v5 : Value} {s : List UInt8} (hlt : ∀ k, F k → k < w.heap.size)
    (ho : w5.ownsRow B 9 1 v5 ((M i).length + 1) ((M i).map strV ++ [strV s])) (hu : Upd (At (vs i)) w w5) (hn : ∀ k, At v5 k → At (vs i) k ∨ w.heap.size ≤ k) :
    MayAt B (w5.setCell ⟨Mb, i, none⟩ v5) Mb F (addM M i s) (setV vs i v5) := by
  have hl := h.lt
  have hnM : ∀ j, j < 8 → ¬ At (vs j) Mb := fun j hj hat => (h.dis j hj Mb hat).1 rfl
  have hc5 : ∀ j, j < 8 → w5.cell? ⟨Mb, j, none⟩ = some (vs j) := fun j hj => hu.cell (h.cell j hj) (hnM i hi)
  have hf5 : ∀ j, j < 8 → w5.frozen? ⟨Mb, j, none⟩ = false := fun j hj => (World.frozen?_of_block (a := ⟨Mb, j, none⟩) (hu.block Mb hl (hnM i hi))).trans (h.free j hj)
  have hs : Upd (fun k => k = Mb) w5 (w5.setCell ⟨Mb, i, none⟩ v5) := Upd.setCell (S := fun k => k = Mb) w5 (a := ⟨Mb, i, none⟩) rfl _
  have h5M : ¬ At v5 Mb := fun hat => by rcases hn Mb hat with h1 | h1; exact hnM i hi h1; omega
  refine ⟨fun j hj => ?_, fun j hj => by rw [World.frozen?_setCell]; exact hf5 j hj, fun j hj => ?_, fun j hj k hat => ?_, h.nF, h.lo⟩
  · unfold setV
    by_cases hji : j = i
    · subst hji; rw [if_pos rfl]; exact World.cell?_setCell_same w5 _ _ (hc5 j hj)
    · rw [if_neg hji, World.cell?_setCell_other _ _ _ _ (fun e => hji (by injection e with _ e; exact e.symm))]; exact hc5 j hj
  · unfold setV addM
    by_cases hji : j = i
    · subst hji
      simp only [if_true, List.length_append, List.length_cons, List.length_nil, List.map_append, List.map_cons, List.map_nil]
      exact hs.owns ho fun k hat e => h5M (by subst e; exact hat)
    · simp only [if_neg hji]
      exact hs.owns (hu.owns (h.own j hj) fun k hat => (h.dis j hj k hat).2.2 i hi (fun e => hji e.symm)) fun k hat e => hnM j hj (by subst e; exact hat)
  · unfold setV at hat ⊢
    by_cases hji : j = i
    · subst hji
      rw [if_pos rfl] at hat
      refine ⟨fun e => h5M (by subst e; exact hat), fun hF => ?_, fun j' hj' hne => ?_⟩
      · rcases hn k hat with h1 | h1
        · exact (h.dis j hj k h1).2.1 hF
        · have := hlt k hF; omega
      · rw [if_neg hne]
        intro h2
        rcases hn k hat with h1 | h1
        · exact (h.dis j hj k h1).2.2 j' hj' hne h2
        · have := own_lt (h.own j' hj') h2; omega
    · rw [if_neg hji] at hat
      refine ⟨(h.dis j hj k hat).1, (h.dis j hj k hat).2.1, fun j' hj' hne => ?_⟩
      by_cases hj'i : j' = i
      · subst hj'i
        rw [if_pos rfl]
        intro h2
        rcases hn k h2 with h1 | h1
        · exact (h.dis j hj k hat).2.2 j' hj' hne h1
        · have := own_lt (h.own j hj) hat; omega
      · rw [if_neg hj'i]; exact (h.dis j hj k hat).2.2 j' hj' hne
/-- The disk does not mind what is written elsewhere. -/
theorem Lv.other {w0 w w' : World} {D : Nat} {F : Nat → Prop} {d : Dk} {S : Nat → Prop} (h : Lv w0 D w F d) (hu : Upd S w w') (h1 : ∀ k, F k → ¬ S k) (h2 : ∀ k, S k → w0.heap.size ≤ k) : Lv w0 D w' F d :=
  ⟨h.at_.upd hu h1, h.upd.trans hu fun k hk hS => by have := h2 k hS; omega, h.own⟩
theorem Apart.other {w w' : World} {F : Nat → Prop} {v : Value} {s : List UInt8} {S : Nat → Prop} (h : Apart w F v s) (hu : Upd S w w') (h1 : ∀ k, At v k → ¬ S k) : Apart w' F v s :=
  ⟨h.has.upd hu h1, fun k hk => ⟨(h.apart k hk).1, Nat.lt_of_lt_of_le (h.apart k hk).2 hu.size⟩⟩
/-- Eight empty slices. -/
theorem MayAt.new (w : World) (F : Nat → Prop) (t : TypeId) (hF : ∀ k, F k → k < w.heap.size) (B : Nat) (hB : B ≤ w.heap.size) :
    MayAt B (w.alloc (.cells (Array.replicate 8 (.slice none 0 0)) t)) w.heap.size F (fun _ => []) (fun _ => .slice none 0 0) := by
  have hc := cells_of (heap_alloc_new w (.cells (Array.replicate 8 (.slice none 0 0)) t))
  refine ⟨fun i hi => by rw [hc.1]; simp [hi], fun i hi => hc.2 i, fun i hi => ⟨by simp, .inl ⟨rfl, rfl⟩⟩, fun i hi k hat => by simp [At, Value.ownBlock] at hat, fun h => by have := hF _ h; omega, hB⟩
end Go.Proofs.Ytgdkgnolkepgdaa
