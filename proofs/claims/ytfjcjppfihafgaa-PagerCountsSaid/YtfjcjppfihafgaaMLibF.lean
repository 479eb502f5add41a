/- A whole block is stored. No program stands here. -/
import Derived.Test.YtfjcjppfihafgaaMBlA
import Derived.Test.YtfjcjppfihafgaaMLibC
namespace Go.Amb
open Go.RowKit
set_option linter.unusedVariables false
theorem blk_there {w : World} {b : Nat} {cells old : Array Value} {t : TypeId} (hb : w.heap[b]? = some (.cells old t (0, 0))) (hl : cells.size = old.size) : w.there b 0 cells.size := by
  have hc := cells_of hb
  intro j hj
  refine ⟨?_, hc.2 _⟩
  rw [hc.1, Array.getElem?_eq_getElem (by omega)]; rfl
theorem blk_stored {w : World} {b : Nat} {cells old : Array Value} {t : TypeId} (hb : w.heap[b]? = some (.cells old t (0, 0))) (hl : cells.size = old.size) : (w.setCells b 0 cells.toList).heap[b]? = some (.cells cells t (0, 0)) := by
  rw [heap_setCells b t cells.toList 0 w old hb (by simp; omega)]
  rw [List.drop_of_length_le (by simp; omega)]
  simp
theorem storeB_list {P : Program} {ops : Array Oper} {rest : List Oper} {op : Oper} {a : Act} {w : World} {Q : Exit → Act → World → Prop} (hgd : op.guard = none) (ty : TypeId) (x y : Operand) (ho : op.op = .store ty x y)
    (b : Nat) (cells old : Array Value) (t : TypeId) (hx : a.eval x = .pointer (some ⟨b, 0, none⟩)) (hy : a.eval y = .agg cells) (hb : w.heap[b]? = some (.cells old t (0, 0))) (hl : cells.size = old.size)
    (hi : (P.info? ty).map (·.size) = some cells.size) (h1 : cells.all (·.oneCell') = true)
    (h : ∀ w', w'.heap[b]? = some (.cells cells t (0, 0)) → Upd (fun k => k = b) w w' → wpList P ops Q rest (a.put op.dst undef) w') : wpList P ops Q (op :: rest) a w :=
  wpList_store_mid hgd ty x y ho b 0 cells hx hy (blk_there hb hl) hi h1 (h _ (blk_stored hb hl) (upd_setCells b cells.toList 0 w))
theorem storeB_listIn {F : Fence} {n : Nat} {P : Program} {ops : Array Oper} {rest : List Oper} {op : Oper} {a : Act} {w : World} {Q : Exit → Act → World → Prop} (hgd : op.guard = none) (ty : TypeId) (x y : Operand) (ho : op.op = .store ty x y)
    (b : Nat) (cells old : Array Value) (t : TypeId) (hx : a.eval x = .pointer (some ⟨b, 0, none⟩)) (hy : a.eval y = .agg cells) (hb : w.heap[b]? = some (.cells old t (0, 0))) (hl : cells.size = old.size)
    (hi : (P.info? ty).map (·.size) = some cells.size) (h1 : cells.all (·.oneCell') = true)
    (h : ∀ w', w'.heap[b]? = some (.cells cells t (0, 0)) → Upd (fun k => k = b) w w' → wpListIn F n P ops Q rest (a.put op.dst undef) w') : wpListIn F n P ops Q (op :: rest) a w :=
  wpListIn_store_mid hgd ty x y ho b 0 cells hx hy (blk_there hb hl) hi h1 (h _ (blk_stored hb hl) (upd_setCells b cells.toList 0 w))
theorem storeB_step {P : Program} {ops : Array Oper} {op : Oper} {a : Act} {w : World} {K : Act → World → Prop} {Q : Exit → Act → World → Prop} {E : Prop} (hgd : op.guard = none) (ty : TypeId) (x y : Operand) (ho : op.op = .store ty x y)
    (b : Nat) (cells old : Array Value) (t : TypeId) (hx : a.eval x = .pointer (some ⟨b, 0, none⟩)) (hy : a.eval y = .agg cells) (hb : w.heap[b]? = some (.cells old t (0, 0))) (hl : cells.size = old.size)
    (hi : (P.info? ty).map (·.size) = some cells.size) (h1 : cells.all (·.oneCell') = true)
    (h : ∀ w', w'.heap[b]? = some (.cells cells t (0, 0)) → Upd (fun k => k = b) w w' → K (a.put op.dst undef) w') : if Region.wanted op (yielded ops a.tmps) = true then Oper.wp P op a w K Q else E := by
  have hw : Region.wanted op (yielded ops a.tmps) = true := by simp [Region.wanted, hgd]
  rw [if_pos hw]
  exact wp_store_mid ty x y ho b 0 cells hx hy (blk_there hb hl) hi h1 (h _ (blk_stored hb hl) (upd_setCells b cells.toList 0 w))
/-- One cell of a block is stored. -/
theorem set_blk {w : World} {b j : Nat} {cells : Array Value} {t : TypeId} (hb : w.heap[b]? = some (.cells cells t (0, 0))) (v : Value) : (w.setCell ⟨b, j, none⟩ v).heap[b]? = some (.cells (cells.setIfInBounds j v) t (0, 0)) :=
  heap_setCell_same w b j _ _ _ hb
end Go.Amb
