/- few: so many acts, so long ones. -/
import Derived.Test.YtgdkgnolkepgdaaMBlP
import Derived.Test.YtgdkgnolkepgdaaMBmA
import Derived.Test.YtgdkgnolkepgdaaMBlU
import Derived.Test.YtgdkgnolkepgdaaMBlM
import Derived.Test.YtgdkgnolkepgdaaMBlY
import Derived.Deep.MidRow
namespace Go.Amb
open Go.RowKit
def GoodLen (a : Act4) : Prop := a.keep.length ≤ 300 ∧ a.s.length ≤ 1000
instance (a : Act4) : Decidable (GoodLen a) := inferInstanceAs (Decidable (_ ∧ _))
def few4 (l : List Act4) : Bool := decide (l.length ≤ 200 ∧ ∀ a ∈ l, GoodLen a)
theorem mem_take_step {l : List Act4} {k : Nat} (h : k < l.length) {p : Act4 → Prop} (h1 : ∀ a ∈ l.take k, p a) (h2 : p l[k]) : ∀ a ∈ l.take (k + 1), p a := by
  intro a ha
  rw [List.take_add_one, List.getElem?_eq_getElem h, Option.toList_some, List.mem_append, List.mem_singleton] at ha
  rcases ha with ha | rfl
  · exact h1 a ha
  · exact h2
end Go.Amb
namespace Go.Proofs.Ytgdkgnolkepgdaa
open Go.RowKit Go.Amb Go.Shelf
set_option linter.unusedVariables false
set_option linter.unusedSimpArgs false
set_option maxRecDepth 100000
end Go.Proofs.Ytgdkgnolkepgdaa

namespace Go.Amb
open Go.RowKit
theorem step_store_blk {P : Program} {ops : Array Oper} {op : Oper} {a : Act} {w : World} {K : Act → World → Prop} {Q : Exit → Act → World → Prop} {E : Prop} (hgd : op.guard = none) (ty : TypeId) (x y : Operand) (ho : op.op = .store ty x y)
    (b : Nat) (cells old : Array Value) (t : TypeId) (hx : a.eval x = .pointer (some ⟨b, 0, none⟩)) (hy : a.eval y = .agg cells) (hb : w.heap[b]? = some (.cells old t (0, 0))) (hl : cells.size = old.size)
    (hi : (P.info? ty).map (·.size) = some cells.size) (h1 : cells.all (·.oneCell') = true)
    (h : ∀ w', w'.heap[b]? = some (.cells cells t (0, 0)) → Upd (fun k => k = b) w w' → K (a.put op.dst undef) w') : if Region.wanted op (yielded ops a.tmps) = true then Oper.wp P op a w K Q else E := by
  have hw : Region.wanted op (yielded ops a.tmps) = true := by simp [Region.wanted, hgd]
  rw [if_pos hw]
  have hc := cells_of hb
  refine wp_store_mid ty x y ho b 0 cells hx hy (fun j hj => ⟨?_, hc.2 _⟩) hi h1 (h _ ?_ (upd_setCells b cells.toList 0 w))
  · rw [hc.1, Array.getElem?_eq_getElem (by omega)]; rfl
  · rw [heap_setCells b t cells.toList 0 w old hb (by simp; omega)]
    rw [List.drop_of_length_le (by simp; omega)]
    simp
end Go.Amb
namespace Go.Proofs.Ytgdkgnolkepgdaa
set_option maxRecDepth 100000
open Go.RowKit Go.Amb Go.Shelf
set_option linter.unusedVariables false
set_option linter.unusedSimpArgs false
/-- Both disks at world w; B: blocks held besides. -/
structure Bth (B : Nat → Prop) (w0 w : World) (D : Nat) (F : Nat → Prop) (d r : Dk) (kv pv : Value) : Prop where
  lv : Lv w0 D w F d
  rat : RAt w r kv pv
  ka : ∀ k, At kv k → ¬ F k ∧ w0.heap.size ≤ k ∧ k < w.heap.size
  pa : ∀ k, At pv k → ¬ F k ∧ w0.heap.size ≤ k ∧ k < w.heap.size
  bs : ∀ k, B k → ¬ F k ∧ ¬ At kv k ∧ ¬ At pv k ∧ w0.heap.size ≤ k ∧ k < w.heap.size
variable {B : Nat → Prop} {w0 w w' : World} {D : Nat} {F : Nat → Prop} {d r : Dk} {kv pv : Value}
theorem Bth.ref (h : Bth B w0 w D F d r kv pv) {r' : Dk} {kv' pv' : Value} (hR : RAt w' r' kv' pv') (hu : Upd Non w w') (hk : Nw w w' kv kv') (hp : Nw w w' pv pv') : Bth B w0 w' D F d r' kv' pv' := by
  have hz := hu.size
  have hz0 := h.lv.upd.size
  refine ⟨h.lv.non hu, hR, fun k hat => ?_, fun k hat => ?_, fun k hb => ?_⟩
  · rcases hk k hat with h1 | h1
    · have := h.ka k h1; exact ⟨this.1, this.2.1, by omega⟩
    · exact ⟨fun hF => by have := h.lv.at_.lt k hF; omega, by omega, h1.2⟩
  · rcases hp k hat with h1 | h1
    · have := h.pa k h1; exact ⟨this.1, this.2.1, by omega⟩
    · exact ⟨fun hF => by have := h.lv.at_.lt k hF; omega, by omega, h1.2⟩
  · obtain ⟨b1, b2, b3, b4, b5⟩ := h.bs k hb
    exact ⟨b1, fun h' => (hk k h').elim b2 fun h => by omega, fun h' => (hp k h').elim b3 fun h => by omega, b4, by omega⟩
theorem Bth.non (h : Bth B w0 w D F d r kv pv) (hu : Upd Non w w') : Bth B w0 w' D F d r kv pv :=
  h.ref (h.rat.non hu) hu (Nw.refl _ _ _) (Nw.refl _ _ _)
theorem Bth.disk (h : Bth B w0 w D F d r kv pv) {F' : Nat → Prop} {d' : Dk} (hL : Lv w0 D w' F' d') (hk : Kp w F w' F') : Bth B w0 w' D F' d' r kv pv := by
  have hz := hk.upd.size
  refine ⟨hL, h.rat.upd hk.upd (fun k hk => (h.ka k hk).1) (fun k hk => (h.pa k hk).1), fun k hat => ?_, fun k hat => ?_, fun k hb => ?_⟩
  · have := h.ka k hat; exact ⟨fun hF => (hk.own k hF).elim this.1 fun h => by omega, this.2.1, by omega⟩
  · have := h.pa k hat; exact ⟨fun hF => (hk.own k hF).elim this.1 fun h => by omega, this.2.1, by omega⟩
  · obtain ⟨b1, b2, b3, b4, b5⟩ := h.bs k hb
    exact ⟨fun hF => (hk.own k hF).elim b1 fun h => by omega, b2, b3, b4, by omega⟩
theorem Bth.grow (h : Bth B w0 w D F d r kv pv) (hu : Upd Non w w') : Bth (fun k => B k ∨ (w.heap.size ≤ k ∧ k < w'.heap.size)) w0 w' D F d r kv pv := by
  have hz := hu.size
  have hz0 := h.lv.upd.size
  have h' := h.non hu
  refine ⟨h'.lv, h'.rat, h'.ka, h'.pa, fun k hb => hb.elim (h'.bs k) fun hb => ⟨fun hF => by have := h.lv.at_.lt k hF; omega, fun hat => by have := h.ka k hat; omega, fun hat => by have := h.pa k hat; omega, by omega, hb.2⟩⟩
theorem Bth.upd {S : Nat → Prop} (h : Bth B w0 w D F d r kv pv) (hu : Upd S w w') (hS : ∀ k, S k → B k) : Bth B w0 w' D F d r kv pv := by
  have hz := hu.size
  refine ⟨⟨h.lv.at_.upd hu fun k hF hs => (h.bs k (hS k hs)).1 hF, h.lv.upd.trans hu fun k hk hs => by have := (h.bs k (hS k hs)).2.2.2.1; omega, h.lv.own⟩,
    h.rat.upd hu (fun k hk hs => (h.bs k (hS k hs)).2.1 hk) (fun k hk hs => (h.bs k (hS k hs)).2.2.1 hk), fun k hk => ?_, fun k hk => ?_, fun k hk => ?_⟩
  · have := h.ka k hk; exact ⟨this.1, this.2.1, by omega⟩
  · have := h.pa k hk; exact ⟨this.1, this.2.1, by omega⟩
  · obtain ⟨b1, b2, b3, b4, b5⟩ := h.bs k hk; exact ⟨b1, b2, b3, b4, by omega⟩
theorem Bth.sub {B' : Nat → Prop} (h : Bth B w0 w D F d r kv pv) (hB : ∀ k, B' k → B k) : Bth B' w0 w D F d r kv pv := ⟨h.lv, h.rat, h.ka, h.pa, fun k hk => h.bs k (hB k hk)⟩
/-- The answer of a step. -/
def Stp (B : Nat → Prop) (w0 w : World) (F : Nat → Prop) (d : Dk) (en : Ending) (w' : World) : Prop :=
  ∃ D' F' d' r' kv' pv', en = .returned (.tuple #[.pointer (some ⟨D', 0, none⟩), rfv r' kv' pv', .bool true]) ∧ Bth B w0 w' D' F' d' r' kv' pv' ∧ Same d' r' ∧ d'.P.length ≤ d.P.length + 1 ∧ d'.K.length = d.K.length ∧ Upd F w w'
/-- The reference's answer, each part by a name. -/
theorem Bth.anew (h : Bth B w0 w D F d r kv pv) {r' : Dk} {e : Int} {en : Ending} (ha : Anew kv pv w r' e en w') : ∃ m ka kn kc pa pn pc f dd, en = .returned (.tuple #[.agg #[.int .i64 m, .slice ka kn kc, .slice pa pn pc, .int .i64 f, .bool dd], .int .i64 e]) ∧
    rfv r' (.slice ka kn kc) (.slice pa pn pc) = .agg #[.int .i64 m, .slice ka kn kc, .slice pa pn pc, .int .i64 f, .bool dd] ∧ Bth B w0 w' D F d r' (.slice ka kn kc) (.slice pa pn pc) ∧ Upd Non w w' := by
  obtain ⟨kv', pv', rfl, hR, hu, hk, hp⟩ := ha
  obtain ⟨_, ka, kc, rfl, -⟩ := id hR.k
  obtain ⟨_, pa, pcp, rfl, -⟩ := id hR.p
  exact ⟨_, _, _, _, _, _, _, _, _, rfl, rfl, h.ref hR hu hk hp, hu⟩
theorem write_K (d : Dk) (i : Int) (s : List UInt8) : (d.write i s).1.K = d.K := by
  unfold Dk.write
  split
  · rfl
  · split
    · rfl
    · split
      · exact Dk.burn_K d
      · exact Dk.burn_K d
theorem arm_K (d : Dk) (n : Int) : (d.arm n).1.K = d.K := by unfold Dk.arm; split <;> rfl
theorem keep_K (d : Dk) (f : Nat → Bool) : (d.keep f).K.length = d.K.length := by
  show (keepK d.K d.P f d.P.length).length = d.K.length
  rw [keepK_pk, keepL_length]
theorem flush_K (d : Dk) : d.flush.1.K.length = d.K.length := by
  unfold Dk.flush
  split
  · rfl
  · split
    · rw [Dk.burn_K]
    · rw [keep_K, Dk.burn_K]
theorem crash_K (d : Dk) (l : List Int) : (d.crash l).K.length = d.K.length := keep_K d _
end Go.Proofs.Ytgdkgnolkepgdaa
