/- A whole block is stored. No program stands here. -/
import Derived.Test.YtmnoldikimcafaaMBlA
import Derived.Test.YtmnoldikimcafaaMLib
import Derived.Deep.RegionHeld3
import Derived.Test.YtmnoldikimcafaaMLsA
namespace Go.Amb
open Go.RowKit
set_option linter.unusedVariables false
theorem blk_there {w : World} {b : Nat} {cells old : Array Value} {t : TypeId} (hb : w.heap[b]? = some (.cells old t (0, 0))) (hl : cells.size = old.size) : w.there b 0 cells.size := by
  have hc := cells_of hb
  intro j hj
  refine ⟨?_, hc.2 _⟩
  rw [hc.1, Array.getElem?_eq_getElem (by omega)]; rfl
theorem blk_stored {w : World} {b : Nat} {cells old : Array Value} {t : TypeId} (hb : w.heap[b]? = some (.cells old t (0, 0))) (hl : cells.size = old.size) : (w.setCells b 0 cells.toList).heap[b]? = some (.cells cells t (0, 0)) := by
  rw [heap_setCells b t cells.toList 0 w old hb (by simp; omega)]
  rw [List.drop_of_length_le (by simp; omega)]
  simp
theorem storeB_list {P : Program} {ops : Array Oper} {rest : List Oper} {op : Oper} {a : Act} {w : World} {Q : Exit → Act → World → Prop} (hgd : op.guard = none) (ty : TypeId) (x y : Operand) (ho : op.op = .store ty x y)
    (b : Nat) (cells old : Array Value) (t : TypeId) (hx : a.eval x = .pointer (some ⟨b, 0, none⟩)) (hy : a.eval y = .agg cells) (hb : w.heap[b]? = some (.cells old t (0, 0))) (hl : cells.size = old.size)
    (hi : (P.info? ty).map (·.size) = some cells.size) (h1 : cells.all (·.oneCell') = true)
    (h : ∀ w', w'.heap[b]? = some (.cells cells t (0, 0)) → Upd (fun k => k = b) w w' → wpList P ops Q rest (a.put op.dst undef) w') : wpList P ops Q (op :: rest) a w :=
  wpList_store_mid hgd ty x y ho b 0 cells hx hy (blk_there hb hl) hi h1 (h _ (blk_stored hb hl) (upd_setCells b cells.toList 0 w))
theorem storeB_listIn {F : Fence} {n : Nat} {P : Program} {ops : Array Oper} {rest : List Oper} {op : Oper} {a : Act} {w : World} {Q : Exit → Act → World → Prop} (hgd : op.guard = none) (ty : TypeId) (x y : Operand) (ho : op.op = .store ty x y)
    (b : Nat) (cells old : Array Value) (t : TypeId) (hx : a.eval x = .pointer (some ⟨b, 0, none⟩)) (hy : a.eval y = .agg cells) (hb : w.heap[b]? = some (.cells old t (0, 0))) (hl : cells.size = old.size)
    (hi : (P.info? ty).map (·.size) = some cells.size) (h1 : cells.all (·.oneCell') = true)
    (h : ∀ w', w'.heap[b]? = some (.cells cells t (0, 0)) → Upd (fun k => k = b) w w' → wpListIn F n P ops Q rest (a.put op.dst undef) w') : wpListIn F n P ops Q (op :: rest) a w :=
  wpListIn_store_mid hgd ty x y ho b 0 cells hx hy (blk_there hb hl) hi h1 (h _ (blk_stored hb hl) (upd_setCells b cells.toList 0 w))
theorem storeB_step {P : Program} {ops : Array Oper} {op : Oper} {a : Act} {w : World} {K : Act → World → Prop} {Q : Exit → Act → World → Prop} {E : Prop} (hgd : op.guard = none) (ty : TypeId) (x y : Operand) (ho : op.op = .store ty x y)
    (b : Nat) (cells old : Array Value) (t : TypeId) (hx : a.eval x = .pointer (some ⟨b, 0, none⟩)) (hy : a.eval y = .agg cells) (hb : w.heap[b]? = some (.cells old t (0, 0))) (hl : cells.size = old.size)
    (hi : (P.info? ty).map (·.size) = some cells.size) (h1 : cells.all (·.oneCell') = true)
    (h : ∀ w', w'.heap[b]? = some (.cells cells t (0, 0)) → Upd (fun k => k = b) w w' → K (a.put op.dst undef) w') : if Region.wanted op (yielded ops a.tmps) = true then Oper.wp P op a w K Q else E := by
  have hw : Region.wanted op (yielded ops a.tmps) = true := by simp [Region.wanted, hgd]
  rw [if_pos hw]
  exact wp_store_mid ty x y ho b 0 cells hx hy (blk_there hb hl) hi h1 (h _ (blk_stored hb hl) (upd_setCells b cells.toList 0 w))
/-- One cell of a block is stored. -/
theorem set_blk {w : World} {b j : Nat} {cells : Array Value} {t : TypeId} (hb : w.heap[b]? = some (.cells cells t (0, 0))) (v : Value) : (w.setCell ⟨b, j, none⟩ v).heap[b]? = some (.cells (cells.setIfInBounds j v) t (0, 0)) :=
  heap_setCell_same w b j _ _ _ hb
end Go.Amb

namespace Go.Amb
open Go.RowKit
/-- The world as it stands is forgotten but for what is said of it. -/
theorem anyH_opaque {P : Program} {md : Region.Mode} {ops : Array Oper} {Q : Exit → Act → World → Prop} {S : World → Prop} {fuel : Nat} {listed : Array Bool} {a : Act} {w : World} (G : World → Prop) (hf : G w)
    (h : ∀ w', G w' → wpAnyH P md ops Q S fuel listed a w') : wpAnyH P md ops Q S fuel listed a w := h w hf
end Go.Amb

namespace Go.Amb
open Go.RowKit
set_option linter.unusedVariables false
theorem wpListIn_appB {F : Fence} {m : Nat} {P : Program} {w : World} {ops : Array Oper} {rest : List Oper} {o : Oper} {a : Act} {Q : Exit → Act → World → Prop} (hgd : o.guard = none) (s x : Operand) (t : TypeId)
    (ho : o.op = .call { callee := .builtin .append, args := #[s, x], argTypes := #[t, t] })
    (base : Nat) (e : TypeId) (z : Value) (size bytes : Nat) (ht : P.underlying t = some (.slice e)) (hinfo : (P.info? e).map (fun i => (i.zero, i.size, i.bytes)) = some (some z, size, bytes))
    (hzs : z.cells.size = size)
    (v : Value) (n : Nat) (xs : List Value) (hs : a.eval s = v) (hown : w.ownsRow base e size v n xs) (cs : List Value) (N : Nat)
    (hx : a.eval x = .slice (some ⟨N, 0, none⟩) 1 1) (hN : N = w.heap.size) (hl : cs.length = size) (h1 : ∀ u ∈ cs, u.oneCell' = true)
    (h63 : n + 1 ≤ maxLen) (hbytes : (n + 1) * bytes ≤ 140737488355328) (hbase : base ≤ w.heap.size)
    (h : ∀ v' w', w'.ownsRow base e size v' (n + 1) (xs ++ cs) → Upd (At v) w w' → (∀ k, At v' k → At v k ∨ w.heap.size ≤ k) → wpListIn F m P ops Q rest (a.put o.dst v') w') : wpListIn F m P ops Q (o :: rest) a (w.alloc (.cells cs.toArray e)) := by
  subst hN
  obtain ⟨i, hi, hz, hsize, hby⟩ := info_parts hinfo
  refine wpListIn_plain hgd fun K hK => ?_
  have hsrc : Src P size t (.slice (some ⟨w.heap.size, 0, none⟩) 1 1) 1 cs (w.alloc (.cells cs.toArray e)) := Src.ofHas ht (has_new w cs e size 1 (by omega) (by unfold maxLen; omega)) h1
  obtain ⟨v', w', hr, h2, h3, h4, _⟩ := run_app (P := P) (w.alloc (.cells cs.toArray e)) base t t o.type e i z size bytes ht hi hz hsize hby hzs v n xs (hown.alloc _) _ 1 cs hsrc h63 hbytes (by simp; omega)
  unfold Oper.wpIn
  refine ⟨by simp [Oper.about, ho, resolve, Target.leads, Sem.run_pure], ?_⟩
  rw [Oper.semAt_plain F _ _ (by rw [ho]; intro c hc'; cases hc')]
  simp [execOp, ho, resolve, invoke, builtin, hs, hx, hr, Result.andThen]
  exact hK _ _ (h v' w' h2 ((Upd.alloc (At v) w _).trans h3 fun _ _ h => h) fun k hk => (h4 k hk).imp id fun h => by simp at h; omega)
theorem Upd.othersB {S : Nat → Prop} {w w' : World} (hu : Upd S w w') (hS : ∀ k o, S k → w.heap[k]? = some o → o.isCells = true) : KeepsOthers w w' :=
  ⟨hu.size, fun k o hk ho => hu.heap hk fun hs => by rw [hS k o hs hk] at ho; cases ho⟩
theorem own_cellsB {w : World} {base : Nat} {e : TypeId} {size : Nat} {v : Value} {n : Nat} {xs : List Value} (h : w.ownsRow base e size v n xs) : ∀ k o, At v k → w.heap[k]? = some o → o.isCells = true := by
  intro k o hk ho
  rcases h.2 with ⟨rfl, _⟩ | ⟨g, cap, cur, rfl, _, hg, _⟩
  · simp [At, Value.ownBlock] at hk
  · have : g = k := by simpa [At, Value.ownBlock] using hk
    subst this; rw [hg] at ho; cases ho; rfl
theorem own_type {w : World} {base : Nat} {e : TypeId} {size : Nat} {v : Value} {n : Nat} {xs : List Value} (h : w.ownsRow base e size v n xs) {k : Nat} (hk : At v k) : ∃ cur, w.heap[k]? = some (.cells cur e (0, 0)) := by
  rcases h.2 with ⟨rfl, _⟩ | ⟨g, cap, cur, rfl, _, hg, _⟩
  · simp [At, Value.ownBlock] at hk
  · have : g = k := by simpa [At, Value.ownBlock] using hk
    subst this; exact ⟨_, hg⟩
/-- A block of another type is not the row's. -/
theorem own_not {w : World} {base : Nat} {e t : TypeId} {size : Nat} {v : Value} {n : Nat} {xs : List Value} (h : w.ownsRow base e size v n xs) {b : Nat} {cs : Array Value} {q : Nat × Nat} (hb : w.heap[b]? = some (.cells cs t q)) (ht : e ≠ t) : ¬ At v b := fun hk => by
  obtain ⟨cur, hc⟩ := own_type h hk
  rw [hb] at hc
  injection hc with hc
  injection hc with _ hc _
  exact ht hc.symm
end Go.Amb
