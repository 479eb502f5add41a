/- A pager in memory, its disk beside it. -/
import Derived.Test.YtfjcjppfihafgaaMPgS
import Derived.Test.YtfjcjppfihafgaaMPgD
import Derived.Test.YtfjcjppfihafgaaMBlM
import Derived.Test.YtfjcjppfihafgaaMLibF
namespace Go.Proofs.Ytfjcjppfihafgaa
set_option maxRecDepth 100000
open Go.RowKit Go.Amb
set_option linter.unusedVariables false
set_option linter.unusedSimpArgs false
def stC (st : List Nat) : Array Value := (st.map fun (s : Nat) => Value.int .i64 (s : Int)).toArray
theorem al_upd {S : Nat → Prop} {w w' : World} {r g n B : Nat} (h : AllocAt w r g n B) (hu : Upd S w w') (hr : ¬ S r) (hg : ¬ S g) : AllocAt w' r g n B :=
  ⟨h.pos, h.most, h.bits, h.apart, hu.cell h.size hr, by
    obtain ⟨c, h1, h2, h3⟩ := h.cap
    exact ⟨c, h1, h2, hu.cell h3 hr⟩, fun j hj => ⟨hu.cell (h.word j hj).1 hg, (World.frozen?_of_block (a := ⟨g, j, none⟩) (hu.block g h.live.2 hg)).trans (h.word j hj).2⟩, by have := hu.size; have := h.live; omega, by have := hu.size; have := h.live; omega⟩
/-- The blocks that a pager and its disk have. -/
def own (F : Nat → Prop) (P I r g : Nat) : Nat → Prop := fun k => F k ∨ k = P ∨ k = I ∨ k = r ∨ k = g
/-- A pager at P (its alloc at r, g; what its pages are at I), its disk at D; B: the bits that the alloc has. -/
structure Pb (w0 w : World) (P D : Nat) (F : Nat → Prop) (r g I fr : Nat) (st : List Nat) (B : Nat) (d : Dk) : Prop where
  lv : Lv w0 D w F d
  cell : w.heap[P]? = some (.cells #[.pointer (some ⟨r, 0, none⟩), .pointer (some ⟨D, 0, none⟩), .int .i64 (fr : Int), .slice (some ⟨I, 0, none⟩) st.length st.length] 29 (0, 0))
  row : w.heap[I]? = some (.cells (stC st) 61 (0, 0))
  al : AllocAt w r g st.length B
  ne : P ≠ I ∧ P ≠ r ∧ P ≠ g ∧ I ≠ r ∧ I ≠ g ∧ r ≠ g
  nF : ¬ F P ∧ ¬ F I ∧ ¬ F r ∧ ¬ F g
  lo : w0.heap.size ≤ P ∧ w0.heap.size ≤ I ∧ w0.heap.size ≤ r ∧ w0.heap.size ≤ g
section
variable {w0 w w' : World} {P D : Nat} {F F' : Nat → Prop} {r g I fr : Nat} {st : List Nat} {B B' : Nat} {d d' : Dk}
theorem Pb.hi (h : Pb w0 w P D F r g I fr st B d) : P < w.heap.size ∧ I < w.heap.size ∧ r < w.heap.size ∧ g < w.heap.size := ⟨heap_lt h.cell, heap_lt h.row, h.al.live⟩
theorem Pb.own_lt (h : Pb w0 w P D F r g I fr st B d) : ∀ k, own F P I r g k → k < w.heap.size := by
  intro k hk
  have := h.hi
  rcases hk with hk | rfl | rfl | rfl | rfl
  · exact h.lv.at_.lt k hk
  · exact this.1
  · exact this.2.1
  · exact this.2.2.1
  · exact this.2.2.2
theorem Pb.own_lo (h : Pb w0 w P D F r g I fr st B d) : ∀ k, own F P I r g k → w0.heap.size ≤ k := by
  intro k hk
  rcases hk with hk | rfl | rfl | rfl | rfl
  · exact h.lv.own k hk
  · exact h.lo.1
  · exact h.lo.2.1
  · exact h.lo.2.2.1
  · exact h.lo.2.2.2
/-- What is written is none of theirs. -/
theorem Pb.beside {S : Nat → Prop} (h : Pb w0 w P D F r g I fr st B d) (hu : Upd S w w') (hS : ∀ k, S k → ¬ own F P I r g k) (hlo : ∀ k, S k → w0.heap.size ≤ k) : Pb w0 w' P D F r g I fr st B d :=
  ⟨⟨h.lv.at_.upd hu fun k hF hs => hS k hs (.inl hF), h.lv.upd.trans hu fun k hk hs => by have := hlo k hs; omega, h.lv.own⟩,
    hu.heap h.cell fun hs => hS _ hs (.inr (.inl rfl)), hu.heap h.row fun hs => hS _ hs (.inr (.inr (.inl rfl))), al_upd h.al hu (fun hs => hS _ hs (.inr (.inr (.inr (.inl rfl))))) (fun hs => hS _ hs (.inr (.inr (.inr (.inr rfl))))), h.ne, h.nF, h.lo⟩
theorem Pb.non (h : Pb w0 w P D F r g I fr st B d) (hu : Upd Non w w') : Pb w0 w' P D F r g I fr st B d := h.beside hu (fun _ h => h.elim) (fun _ h => h.elim)
/-- A call of the alloc. -/
theorem Pb.alloc (h : Pb w0 w P D F r g I fr st B d) (ha : AllocAt w' r g st.length B') (hu : Upd (fun k => k = g) w w') : Pb w0 w' P D F r g I fr st B' d := by
  obtain ⟨n1, n2, n3, n4, n5, n6⟩ := h.ne
  obtain ⟨f1, f2, f3, f4⟩ := h.nF
  exact ⟨⟨h.lv.at_.upd hu fun k hF e => f4 (e ▸ hF), h.lv.upd.trans hu fun k hk e => by have := h.lo.2.2.2; omega, h.lv.own⟩, hu.heap h.cell n3, hu.heap h.row n5, ha, h.ne, h.nF, h.lo⟩
/-- A call of the disk. -/
theorem Pb.disk (h : Pb w0 w P D F r g I fr st B d) (hl : Lv w0 D w' F' d') (hk : Kp w F w' F') : Pb w0 w' P D F' r g I fr st B d' := by
  obtain ⟨f1, f2, f3, f4⟩ := h.nF
  obtain ⟨l1, l2, l3, l4⟩ := h.hi
  have no : ∀ k, k < w.heap.size → ¬ F k → ¬ F' k := fun k hk1 hk2 hf => (hk.own k hf).elim hk2 fun h => by omega
  exact ⟨hl, hk.upd.heap h.cell f1, hk.upd.heap h.row f2, al_upd h.al hk.upd f3 f4, h.ne, ⟨no _ l1 f1, no _ l2 f2, no _ l3 f3, no _ l4 f4⟩, h.lo⟩
theorem stC_set (st : List Nat) (i v : Nat) : (stC st).setIfInBounds i (.int .i64 (v : Int)) = stC (st.set i v) := by
  unfold stC
  apply Array.ext'
  simp [List.map_set]
/-- A page is something else. -/
theorem Pb.set (h : Pb w0 w P D F r g I fr st B d) (i v : Nat) : Pb w0 (w.setCell ⟨I, i, none⟩ (.int .i64 (v : Int))) P D F r g I fr (st.set i v) B d := by
  obtain ⟨n1, n2, n3, n4, n5, n6⟩ := h.ne
  obtain ⟨f1, f2, f3, f4⟩ := h.nF
  have hu : Upd (fun k => k = I) w (w.setCell ⟨I, i, none⟩ (.int .i64 (v : Int))) := Upd.setCell (S := fun k => k = I) w (a := ⟨I, i, none⟩) rfl _
  refine ⟨⟨h.lv.at_.upd hu fun k hF e => f2 (e ▸ hF), h.lv.upd.trans hu fun k hk e => by have := h.lo.2.1; omega, h.lv.own⟩, ?_, ?_, ?_, h.ne, h.nF, h.lo⟩
  · rw [List.length_set]; exact hu.heap h.cell n1
  · have := set_blk (j := i) h.row (.int .i64 (v : Int))
    rw [stC_set] at this
    exact this
  · rw [List.length_set]; exact al_upd h.al hu (fun e => n4 e.symm) (fun e => n5 e.symm)
theorem Pb.upd_set (w : World) (I i : Nat) (v : Value) : Upd (fun k => k = I) w (w.setCell ⟨I, i, none⟩ v) := Upd.setCell (S := fun k => k = I) w (a := ⟨I, i, none⟩) rfl _
/-- A page's state as it lies there. -/
theorem Pb.at (h : Pb w0 w P D F r g I fr st B d) (i : Nat) (hi : i < st.length) : w.cell? ⟨I, i, none⟩ = some (.int .i64 ((st.getD i 0 : Nat) : Int)) ∧ w.frozen? ⟨I, i, none⟩ = false := by
  have hc := cells_of h.row
  refine ⟨?_, hc.2 i⟩
  rw [hc.1 i]
  unfold stC
  simp [hi]
end
/-- A pager, from call to call: its alloc has what its pages say; its disk lives, and has room. -/
structure Pg (w0 w : World) (P D : Nat) (F : Nat → Prop) (r g I fr : Nat) (st : List Nat) (d : Dk) : Prop where
  pb : Pb w0 w P D F r g I fr st (stB st) d
  liv : Liv d d.K.length
  room : fr + 8 * st.length ≤ d.K.length
  s4 : ∀ s ∈ st, s < 4
/-- What a call of a pager leaves. -/
def PgS (w0 w : World) (P D : Nat) (F : Nat → Prop) (r g I fr : Nat) (st : List Nat) (dp : Dk → Prop) (w' : World) : Prop :=
  ∃ F' d', Pg w0 w' P D F' r g I fr st d' ∧ dp d' ∧ Kp w (own F P I r g) w' (own F' P I r g)
section
variable {w0 w w' : World} {P D : Nat} {F F' : Nat → Prop} {r g I fr : Nat} {st : List Nat} {d d' : Dk}
theorem Pg.non (h : Pg w0 w P D F r g I fr st d) (hu : Upd Non w w') : Pg w0 w' P D F r g I fr st d := ⟨h.pb.non hu, h.liv, h.room, h.s4⟩
theorem Pg.stay (h : Pg w0 w P D F r g I fr st d) (hu : Upd Non w w') : PgS w0 w P D F r g I fr st (fun x => x = d) w' := ⟨F, d, h.non hu, rfl, Kp.non hu⟩
end
end Go.Proofs.Ytfjcjppfihafgaa
