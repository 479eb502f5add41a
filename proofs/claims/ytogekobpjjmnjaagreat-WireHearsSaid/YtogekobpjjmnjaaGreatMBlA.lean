/- Rows of rows in memory: sectors, writes. No program stands here. -/
import Derived.Test.YtogekobpjjmnjaaGreatMLib
import Derived.Deep.MidRow
import Derived.TacticsIn
namespace Go.Amb
open Go.RowKit
set_option linter.unusedVariables false
theorem fl_length {α : Type} {m : Nat} {L : List (List α)} (h : ∀ s ∈ L, s.length = m) : L.flatten.length = L.length * m := by
  induction L with
  | nil => simp
  | cons x L ih =>
    rw [List.flatten_cons, List.length_append, ih fun s hs => h s (List.mem_cons_of_mem _ hs), h x (List.mem_cons_self ..), List.length_cons, Nat.succ_mul, Nat.add_comm]
theorem fl_split {α : Type} {m : Nat} {L : List (List α)} (h : ∀ s ∈ L, s.length = m) (i : Nat) (hi : i < L.length) :
    L.flatten = (L.take i).flatten ++ L[i] ++ (L.drop (i + 1)).flatten ∧ (L.take i).flatten.length = i * m := by
  constructor
  · conv => lhs; rw [← List.take_append_drop i L, List.flatten_append, List.drop_eq_getElem_cons hi, List.flatten_cons, ← List.append_assoc]
  · rw [fl_length (m := m) fun s hs => h s (List.mem_of_mem_take hs), List.length_take, Nat.min_eq_left (by omega)]
theorem fl_get {α : Type} {m : Nat} {L : List (List α)} (h : ∀ s ∈ L, s.length = m) (i j : Nat) (hi : i < L.length) (hj : j < m) : L.flatten[i * m + j]? = L[i][j]? := by
  obtain ⟨h1, h2⟩ := fl_split h i hi
  have h3 := h L[i] (List.getElem_mem hi)
  rw [h1, List.append_assoc, List.getElem?_append_right (by omega), h2, List.getElem?_append_left (by omega)]
  congr 1; omega
theorem fl_set {α : Type} {m : Nat} {L : List (List α)} (h : ∀ s ∈ L, s.length = m) (i : Nat) (hi : i < L.length) (s : List α) :
    (L.set i s).flatten = L.flatten.take (i * m) ++ s ++ L.flatten.drop (i * m + m) := by
  obtain ⟨h1, h2⟩ := fl_split h i hi
  have h3 := h L[i] (List.getElem_mem hi)
  have e : (L.set i s).flatten = (L.take i).flatten ++ s ++ (L.drop (i + 1)).flatten := by
    rw [List.set_eq_take_append_cons_drop, if_pos hi, List.flatten_append, List.flatten_cons, ← List.append_assoc]
  rw [e, h1]
  clear e h1
  generalize (L.take i).flatten = A at *
  generalize L[i] = B at *
  generalize (L.drop (i + 1)).flatten = C at *
  have t1 : (A ++ B ++ C).take (i * m) = A := by rw [List.append_assoc, ← h2, List.take_left]
  have t2 : (A ++ B ++ C).drop (i * m + m) = C := by rw [show i * m + m = (A ++ B).length by rw [List.length_append]; omega, List.drop_left]
  rw [t1, t2]
theorem heap_setCells (g : Nat) (t : TypeId) : ∀ (vs : List Value) (o : Nat) (w : World) (cur : Array Value), w.heap[g]? = some (.cells cur t (0, 0)) → o + vs.length ≤ cur.size →
    (w.setCells g o vs).heap[g]? = some (.cells (cur.toList.take o ++ vs ++ cur.toList.drop (o + vs.length)).toArray t (0, 0))
  | [], o, w, cur, h, hl => by
    rw [World.setCells, h]
    simp
  | v :: r, o, w, cur, h, hl => by
    rw [List.length_cons] at hl
    rw [World.setCells, heap_setCells g t r (o + 1) _ (cur.setIfInBounds o v) (heap_setCell_same w g o cur t v h) (by rw [Array.size_setIfInBounds]; omega)]
    have hlen : o < cur.toList.length := by simp; omega
    congr 3
    rw [Array.toList_setIfInBounds, List.length_cons, List.drop_set_of_lt (by omega), List.set_eq_take_append_cons_drop, if_pos hlen,
      List.take_append, List.length_take, Nat.min_eq_left (by omega), List.take_of_length_le (by rw [List.length_take]; omega), show o + 1 - o = 1 by omega, List.take_succ_cons, List.take_zero,
      show o + 1 + r.length = o + (r.length + 1) by omega]
    simp
theorem upd_setCells (g : Nat) : ∀ (vs : List Value) (o : Nat) (w : World), Upd (fun k => k = g) w (w.setCells g o vs)
  | [], o, w => by rw [World.setCells]; exact Upd.refl _ _
  | v :: r, o, w => by
    rw [World.setCells]
    exact (Upd.setCell (S := fun k => k = g) w (a := ⟨g, o, none⟩) rfl v).trans (upd_setCells g r (o + 1) _) fun _ _ h => h
section
variable {w : World} {base : Nat} {e : TypeId} {m : Nat} {v : Value} {n : Nat} {L : List (List Value)}
/-- An owned row's row i lies there. -/
theorem own_range (h : w.ownsRow base e m v n L.flatten) (hL : ∀ s ∈ L, s.length = m) (hn : L.length = n) (i : Nat) (hi : i < n) : ∃ g c, v = .slice (some ⟨g, 0, none⟩) n c ∧ At v g ∧ n ≤ c ∧ c ≤ maxLen ∧ w.rangeAt g (i * m) (L[i]'(by omega)) ∧ w.there g (i * m) m := by
  rcases h.2 with ⟨rfl, rfl⟩ | ⟨g, cap, cur, rfl, hb, hg, hnc, hcm, hcs, htake⟩
  · omega
  · have hsz : i * m + m ≤ n * m := by rw [← Nat.succ_mul]; exact Nat.mul_le_mul_right _ hi
    have hcap : n * m ≤ cap * m := Nat.mul_le_mul_right _ hnc
    have hc := cells_of hg
    refine ⟨g, cap, rfl, rfl, hnc, hcm, ?_, ?_⟩
    · intro j u hu
      have hjm : j < m := by rw [← hL _ (List.getElem_mem (by omega : i < L.length))]; exact (List.getElem?_eq_some_iff.1 hu).1
      rw [hc.1, ← Array.getElem?_toList]
      have h2 := fl_get hL i j (by omega) hjm
      rw [← htake, List.getElem?_take, if_pos (by omega)] at h2
      rw [h2]; exact hu
    · intro j hj
      refine ⟨?_, hc.2 _⟩
      rw [hc.1, Array.getElem?_eq_getElem (by omega)]; rfl
/-- One row of an owned row is stored. -/
theorem own_setRow (h : w.ownsRow base e m v n L.flatten) (hL : ∀ s ∈ L, s.length = m) (hn : L.length = n) (i : Nat) (hi : i < n) (s : List Value) (hs : s.length = m) {g : Nat} (hg : At v g) :
    (w.setCells g (i * m) s).ownsRow base e m v n (L.set i s).flatten := by
  rcases h.2 with ⟨rfl, rfl⟩ | ⟨g', cap, cur, rfl, hb, hgg, hnc, hcm, hcs, htake⟩
  · omega
  · obtain rfl : g' = g := by simpa [At, Value.ownBlock] using hg
    have hsz : i * m + m ≤ n * m := by rw [← Nat.succ_mul]; exact Nat.mul_le_mul_right _ hi
    have hcap : n * m ≤ cap * m := Nat.mul_le_mul_right _ hnc
    have hfl := fl_length hL
    have hne := heap_setCells g' e s (i * m) w cur hgg (by omega)
    have hls : (L.set i s).flatten.length = n * m := by
      rw [fl_length (m := m), List.length_set, hn]
      intro x hx
      rcases List.mem_or_eq_of_mem_set hx with h | rfl
      · exact hL x h
      · exact hs
    refine ⟨hls, .inr ⟨g', cap, _, rfl, hb, hne, hnc, hcm, ?_, ?_⟩⟩
    · simp; omega
    · have hX : cur.toList = L.flatten ++ cur.toList.drop (n * m) := by rw [← htake, List.take_append_drop]
      rw [fl_set hL i (by omega) s]
      generalize cur.toList.drop (n * m) = R at hX
      have h1 : L.flatten.length = n * m := by rw [hfl, hn]
      rw [hX, hs, List.toList_toArray]
      have t1 : (L.flatten ++ R).take (i * m) = L.flatten.take (i * m) := List.take_append_of_le_length (by omega)
      have t2 : (L.flatten ++ R).drop (i * m + m) = L.flatten.drop (i * m + m) ++ R := List.drop_append_of_le_length (by omega)
      rw [t1, t2, ← List.append_assoc, List.take_append_of_le_length (by rw [← fl_set hL i (by omega) s]; omega), List.take_of_length_le (by rw [← fl_set hL i (by omega) s]; omega)]
end
end Go.Amb
namespace Go.Amb
open Go.RowKit
/-! ### The load and the store of many cells, as the walk meets them in a plain list; in a round or not -/
theorem wpIn_load_mid {F : Fence} {n : Nat} {P : Program} {op : Oper} {a : Act} {w : World} {K : Act → World → Prop} {Q : Exit → Act → World → Prop} (ty : TypeId) (x : Operand) (ho : op.op = .load ty x)
    (b o : Nat) (hx : a.eval x = .pointer (some ⟨b, o, none⟩)) (cs : List Value) (d : TypeDesc) (hc : w.rangeAt b o cs)
    (hu : P.underlying ty = some d) (hd : d.isRow = true) (hi : (P.info? ty).map (·.size) = some cs.length)
    (h : K (a.put op.dst (.agg cs.toArray)) w) : op.wpIn F n P a w K Q := by
  unfold Oper.wpIn
  refine ⟨by simp [Oper.about, ho], ?_⟩
  rw [Oper.semAt_eq _ _ _ (by rw [ho]; intro c hc'; cases hc')]
  unfold execOp
  simp only [ho, hx, Instr.loadAt, Instr.sureAddr, Sem.run_bind, Sem.run_pure, Result.andThen_ok, run_loadVar_mid w b o ty cs d hc hu hd hi]
  exact h
theorem wpListIn_load_mid {F : Fence} {n : Nat} {P : Program} {ops : Array Oper} {rest : List Oper} {op : Oper} {a : Act} {w : World} {Q : Exit → Act → World → Prop} (hgd : op.guard = none) (ty : TypeId) (x : Operand) (ho : op.op = .load ty x)
    (b o : Nat) (hx : a.eval x = .pointer (some ⟨b, o, none⟩)) (cs : List Value) (d : TypeDesc) (hc : w.rangeAt b o cs)
    (hu : P.underlying ty = some d) (hd : d.isRow = true) (hi : (P.info? ty).map (·.size) = some cs.length)
    (h : wpListIn F n P ops Q rest (a.put op.dst (.agg cs.toArray)) w) : wpListIn F n P ops Q (op :: rest) a w :=
  wpListIn_plain hgd fun _ hK => wpIn_load_mid ty x ho b o hx cs d hc hu hd hi (hK _ _ h)
theorem wpIn_store_mid {F : Fence} {n : Nat} {P : Program} {op : Oper} {a : Act} {w : World} {K : Act → World → Prop} {Q : Exit → Act → World → Prop} (ty : TypeId) (x y : Operand) (ho : op.op = .store ty x y)
    (b o : Nat) (cells : Array Value) (hx : a.eval x = .pointer (some ⟨b, o, none⟩)) (hy : a.eval y = .agg cells)
    (ht : w.there b o cells.size) (hi : (P.info? ty).map (·.size) = some cells.size) (h1 : cells.all (·.oneCell') = true)
    (h : K (a.put op.dst undef) (w.setCells b o cells.toList)) : op.wpIn F n P a w K Q := by
  unfold Oper.wpIn
  refine ⟨by simp [Oper.about, ho], ?_⟩
  rw [Oper.semAt_eq _ _ _ (by rw [ho]; intro c hc'; cases hc')]
  unfold execOp
  simp only [ho, hx, hy, Instr.storeAt, Instr.sureAddr, Sem.run_bind, Sem.run_pure, Result.andThen_ok, run_storeVar_mid w b o ty cells ht hi h1]
  exact h
theorem wpListIn_store_mid {F : Fence} {n : Nat} {P : Program} {ops : Array Oper} {rest : List Oper} {op : Oper} {a : Act} {w : World} {Q : Exit → Act → World → Prop} (hgd : op.guard = none) (ty : TypeId) (x y : Operand) (ho : op.op = .store ty x y)
    (b o : Nat) (cells : Array Value) (hx : a.eval x = .pointer (some ⟨b, o, none⟩)) (hy : a.eval y = .agg cells)
    (ht : w.there b o cells.size) (hi : (P.info? ty).map (·.size) = some cells.size) (h1 : cells.all (·.oneCell') = true)
    (h : wpListIn F n P ops Q rest (a.put op.dst undef) (w.setCells b o cells.toList)) : wpListIn F n P ops Q (op :: rest) a w :=
  wpListIn_plain hgd fun _ hK => wpIn_store_mid ty x y ho b o cells hx hy ht hi h1 (hK _ _ h)
end Go.Amb

namespace Go.Amb
open Go.RowKit
set_option linter.unusedVariables false
theorem blk_there {w : World} {b : Nat} {cells old : Array Value} {t : TypeId} (hb : w.heap[b]? = some (.cells old t (0, 0))) (hl : cells.size = old.size) : w.there b 0 cells.size := by
  have hc := cells_of hb
  intro j hj
  refine ⟨?_, hc.2 _⟩
  rw [hc.1, Array.getElem?_eq_getElem (by omega)]; rfl
theorem blk_stored {w : World} {b : Nat} {cells old : Array Value} {t : TypeId} (hb : w.heap[b]? = some (.cells old t (0, 0))) (hl : cells.size = old.size) : (w.setCells b 0 cells.toList).heap[b]? = some (.cells cells t (0, 0)) := by
  rw [heap_setCells b t cells.toList 0 w old hb (by simp; omega)]
  rw [List.drop_of_length_le (by simp; omega)]
  simp
theorem storeB_list {P : Program} {ops : Array Oper} {rest : List Oper} {op : Oper} {a : Act} {w : World} {Q : Exit → Act → World → Prop} (hgd : op.guard = none) (ty : TypeId) (x y : Operand) (ho : op.op = .store ty x y)
    (b : Nat) (cells old : Array Value) (t : TypeId) (hx : a.eval x = .pointer (some ⟨b, 0, none⟩)) (hy : a.eval y = .agg cells) (hb : w.heap[b]? = some (.cells old t (0, 0))) (hl : cells.size = old.size)
    (hi : (P.info? ty).map (·.size) = some cells.size) (h1 : cells.all (·.oneCell') = true)
    (h : ∀ w', w'.heap[b]? = some (.cells cells t (0, 0)) → Upd (fun k => k = b) w w' → wpList P ops Q rest (a.put op.dst undef) w') : wpList P ops Q (op :: rest) a w :=
  wpList_store_mid hgd ty x y ho b 0 cells hx hy (blk_there hb hl) hi h1 (h _ (blk_stored hb hl) (upd_setCells b cells.toList 0 w))
theorem storeB_listIn {F : Fence} {n : Nat} {P : Program} {ops : Array Oper} {rest : List Oper} {op : Oper} {a : Act} {w : World} {Q : Exit → Act → World → Prop} (hgd : op.guard = none) (ty : TypeId) (x y : Operand) (ho : op.op = .store ty x y)
    (b : Nat) (cells old : Array Value) (t : TypeId) (hx : a.eval x = .pointer (some ⟨b, 0, none⟩)) (hy : a.eval y = .agg cells) (hb : w.heap[b]? = some (.cells old t (0, 0))) (hl : cells.size = old.size)
    (hi : (P.info? ty).map (·.size) = some cells.size) (h1 : cells.all (·.oneCell') = true)
    (h : ∀ w', w'.heap[b]? = some (.cells cells t (0, 0)) → Upd (fun k => k = b) w w' → wpListIn F n P ops Q rest (a.put op.dst undef) w') : wpListIn F n P ops Q (op :: rest) a w :=
  wpListIn_store_mid hgd ty x y ho b 0 cells hx hy (blk_there hb hl) hi h1 (h _ (blk_stored hb hl) (upd_setCells b cells.toList 0 w))
theorem storeB_step {P : Program} {ops : Array Oper} {op : Oper} {a : Act} {w : World} {K : Act → World → Prop} {Q : Exit → Act → World → Prop} {E : Prop} (hgd : op.guard = none) (ty : TypeId) (x y : Operand) (ho : op.op = .store ty x y)
    (b : Nat) (cells old : Array Value) (t : TypeId) (hx : a.eval x = .pointer (some ⟨b, 0, none⟩)) (hy : a.eval y = .agg cells) (hb : w.heap[b]? = some (.cells old t (0, 0))) (hl : cells.size = old.size)
    (hi : (P.info? ty).map (·.size) = some cells.size) (h1 : cells.all (·.oneCell') = true)
    (h : ∀ w', w'.heap[b]? = some (.cells cells t (0, 0)) → Upd (fun k => k = b) w w' → K (a.put op.dst undef) w') : if Region.wanted op (yielded ops a.tmps) = true then Oper.wp P op a w K Q else E := by
  have hw : Region.wanted op (yielded ops a.tmps) = true := by simp [Region.wanted, hgd]
  rw [if_pos hw]
  exact wp_store_mid ty x y ho b 0 cells hx hy (blk_there hb hl) hi h1 (h _ (blk_stored hb hl) (upd_setCells b cells.toList 0 w))
/-- One cell of a block is stored. -/
theorem set_blk {w : World} {b j : Nat} {cells : Array Value} {t : TypeId} (hb : w.heap[b]? = some (.cells cells t (0, 0))) (v : Value) : (w.setCell ⟨b, j, none⟩ v).heap[b]? = some (.cells (cells.setIfInBounds j v) t (0, 0)) :=
  heap_setCell_same w b j _ _ _ hb
end Go.Amb

namespace Go.Amb
open Go.RowKit
set_option linter.unusedVariables false
theorem oper_mono2 {P : Program} {o : Oper} {a : Act} {w : World} {K K' : Act → World → Prop} {Q Q' : Exit → Act → World → Prop} (h : ∀ a w, K a w → K' a w) (hq : ∀ e a w, e ≠ .normal → Q e a w → Q' e a w) (hh : o.wp P a w K Q) : o.wp P a w K' Q' := by
  have hl : LetsOut Q → LetsOut Q' := fun ⟨a, w, h⟩ => ⟨a, w, hq _ _ _ (by simp) h⟩
  unfold Oper.wp at *
  generalize (execOp a.eval o).run P w = r at *
  cases r with
  | ok n w' =>
    cases n <;> simp only [Oper.upon] at hh ⊢ <;>
      first
        | exact h _ _ hh
        | exact Calls.mono hh (fun e w'' he => by cases e <;> first | exact h _ _ he | exact hl he | exact hq _ _ _ (by simp) he)
        | exact Rows.mono hh (fun _ _ he => h _ _ he)
  | halt x w' => cases x <;> simp only [Oper.upon] at hh ⊢ <;> first | exact hh | exact hq _ _ _ (by simp) hh
/-- What is shown of the first part: it comes to M. -/
def CutQ (M : Act → World → Prop) : Exit → Act → World → Prop
  | .normal, a, w => M a w
  | _, _, _ => False
theorem wpList_app_cut {P : Program} {ops : Array Oper} {Q : Exit → Act → World → Prop} (M : Act → World → Prop) (l2 : List Oper) (h2 : ∀ a w, M a w → wpList P ops Q l2 a w) : ∀ (l1 : List Oper) (a : Act) (w : World), wpList P ops (CutQ M) l1 a w → wpList P ops Q (l1 ++ l2) a w
  | [], a, w, h => h2 a w h
  | o :: l1, a, w, h => by
    rw [List.cons_append, wpList]
    rw [wpList] at h
    split at h
    · rename_i hw
      rw [if_pos hw]
      rcases h with h | ⟨_, a', w', h⟩
      · exact .inl (oper_mono2 (fun a w h => wpList_app_cut M l2 h2 l1 a w h) (fun e a w he h => by cases e <;> first | exact absurd rfl he | exact h.elim) h)
      · exact h.elim
    · rename_i hw
      rw [if_neg hw]
      exact wpList_app_cut M l2 h2 l1 _ _ h
/-- The cut: n operations ahead of it. -/
theorem wpList_cut {P : Program} {ops : Array Oper} {Q : Exit → Act → World → Prop} {l : List Oper} {a : Act} {w : World} (n : Nat) (M : Act → World → Prop) (h1 : wpList P ops (CutQ M) (l.take n) a w) (h2 : ∀ a w, M a w → wpList P ops Q (l.drop n) a w) : wpList P ops Q l a w := by
  have := wpList_app_cut M (l.drop n) h2 (l.take n) a w h1
  rwa [List.take_append_drop] at this
theorem wpList_cutT {P : Program} {ops : Array Oper} {Q : Exit → Act → World → Prop} {l : List Oper} {a : Act} {w : World} (n : Nat) (M : Act → World → Prop) (h1 : True → wpList P ops (CutQ M) (l.take n) a w) (h2 : ∀ a w, M a w → wpList P ops Q (l.drop n) a w) : wpList P ops Q l a w := wpList_cut n M (h1 trivial) h2
end Go.Amb

namespace Go.Amb
open Go.RowKit
theorem step_store_row {P : Program} {ops : Array Oper} {op : Oper} {a : Act} {w : World} {K : Act → World → Prop} {Q : Exit → Act → World → Prop} {E : Prop} (hgd : op.guard = none) (ty : TypeId) (x y : Operand) (ho : op.op = .store ty x y)
    (b o : Nat) (cells old : Array Value) (t : TypeId) (hx : a.eval x = .pointer (some ⟨b, o, none⟩)) (hy : a.eval y = .agg cells) (hb : w.heap[b]? = some (.cells old t (0, 0))) (hl : o + cells.size ≤ old.size)
    (hi : (P.info? ty).map (·.size) = some cells.size) (h1 : cells.all (·.oneCell') = true)
    (h : ∀ w', w'.heap[b]? = some (.cells (old.toList.take o ++ cells.toList ++ old.toList.drop (o + cells.size)).toArray t (0, 0)) → Upd (fun k => k = b) w w' → K (a.put op.dst undef) w') : if Region.wanted op (yielded ops a.tmps) = true then Oper.wp P op a w K Q else E := by
  have hw : Region.wanted op (yielded ops a.tmps) = true := by simp [Region.wanted, hgd]
  rw [if_pos hw]
  have hc := cells_of hb
  refine wp_store_mid ty x y ho b o cells hx hy (fun j hj => ⟨?_, hc.2 _⟩) hi h1 (h _ ?_ (upd_setCells b cells.toList o w))
  · rw [hc.1, Array.getElem?_eq_getElem (by omega)]; rfl
  · rw [heap_setCells b t cells.toList o w old hb (by simp; omega)]
    simp
theorem run_storeVar_cell {P : Program} (w : World) (b o : Nat) (ty : TypeId) (v : Value) (hc : v.cells = #[v]) (h1 : v.oneCell' = true) (ht : (w.cell? ⟨b, o, none⟩).isSome = true) (hf : w.frozen? ⟨b, o, none⟩ = false) (hi : (P.info? ty).map (·.size) = some 1) :
    (storeVar ty ⟨b, o, none⟩ v).run P w = .ok () (w.setCells b o [v]) := by
  have := run_storeCells_cells (P := P) b o [v] 0 w (fun j hj => by obtain rfl : j = 0 := by simpa using hj
                                                                    simpa using ht) (fun j hj => by obtain rfl : j = 0 := by simpa using hj
                                                                                                    simpa using hf) (fun u hu => by rw [List.mem_singleton.1 hu]; exact h1)
  cases hq : P.info? ty with
  | none => simp [hq] at hi
  | some i =>
    have hs : 1 = i.size := by simp [hq] at hi; omega
    simp only [Nat.add_zero] at this
    simp [storeVar, sizeOf, typeInfo, hq, hc, ← hs, this]
theorem step_store_cell {P : Program} {ops : Array Oper} {op : Oper} {a : Act} {w : World} {K : Act → World → Prop} {Q : Exit → Act → World → Prop} {E : Prop} (hgd : op.guard = none) (ty : TypeId) (x y : Operand) (ho : op.op = .store ty x y)
    (b o : Nat) (v : Value) (old : Array Value) (t : TypeId) (hx : a.eval x = .pointer (some ⟨b, o, none⟩)) (hy : a.eval y = v) (hb : w.heap[b]? = some (.cells old t (0, 0))) (hl : o < old.size)
    (hi : (P.info? ty).map (·.size) = some 1) (hc : v.cells = #[v]) (h1 : v.oneCell' = true)
    (h : ∀ w', w'.heap[b]? = some (.cells (old.toList.take o ++ v :: old.toList.drop (o + 1)).toArray t (0, 0)) → Upd (fun k => k = b) w w' → K (a.put op.dst undef) w') : if Region.wanted op (yielded ops a.tmps) = true then Oper.wp P op a w K Q else E := by
  have hw : Region.wanted op (yielded ops a.tmps) = true := by simp [Region.wanted, hgd]
  rw [if_pos hw]
  have hcc := cells_of hb
  have hs : (w.cell? ⟨b, o, none⟩).isSome = true := by rw [hcc.1, Array.getElem?_eq_getElem hl]; rfl
  unfold Oper.wp execOp
  simp only [ho, hx, hy, Instr.storeAt, Instr.sureAddr, Sem.run_bind, Sem.run_pure, Result.andThen_ok, run_storeVar_cell w b o ty v hc h1 hs (hcc.2 _) hi]
  refine h _ ?_ (upd_setCells b [v] o w)
  rw [heap_setCells b t [v] o w old hb (show o + 1 ≤ old.size from hl)]
  simp
/-- As step_app1, no draw between. -/
theorem step_app1p {P : Program} {w : World} {ops : Array Oper} {o : Oper} {a : Act} {K : Act → World → Prop} {Q : Exit → Act → World → Prop} {E : Prop} (hgd : o.guard = none) (s x : Operand) (t : TypeId)
    (ho : o.op = .call { callee := .builtin .append, args := #[s, x], argTypes := #[t, t] })
    (base : Nat) (e : TypeId) (z : Value) (size bytes : Nat) (ht : P.underlying t = some (.slice e)) (hinfo : (P.info? e).map (fun i => (i.zero, i.size, i.bytes)) = some (some z, size, bytes))
    (hzs : z.cells.size = size) (v : Value) (n : Nat) (xs : List Value) (hs : a.eval s = v) (hown : w.ownsRow base e size v n xs) (cs : List Value) (N : Nat)
    (hx : a.eval x = .slice (some ⟨N, 0, none⟩) 1 1) (hN : N = w.heap.size) (hl : cs.length = size) (h1 : ∀ u ∈ cs, u.oneCell' = true)
    (h63 : n + 1 ≤ maxLen) (hbytes : (n + 1) * bytes ≤ 140737488355328) (hbase : base ≤ w.heap.size)
    (h : ∀ v' w', w'.ownsRow base e size v' (n + 1) (xs ++ cs) → Upd (At v) w w' → (∀ k, At v' k → At v k ∨ w.heap.size ≤ k) → K (a.put o.dst v') w') :
    if Region.wanted o (yielded ops a.tmps) = true then Oper.wp P o a (w.alloc (.cells cs.toArray e)) K Q else E := by
  subst hN
  exact step_app hgd s x t t ho base e z size bytes ht hinfo hzs v n xs hs (hown.alloc _) _ 1 cs hx (Src.ofHas ht (has_new w cs e size 1 (by omega) (by unfold maxLen; omega)) h1) h63 hbytes (by simp; omega)
    fun v' w' h2 h3 h4 => h v' w' h2 ((Upd.alloc (At v) w _).trans h3 fun _ _ h => h) fun k hk => (h4 k hk).imp id fun h => by simp at h; omega
end Go.Amb

namespace Go.Amb
open Go.RowKit
set_option linter.unusedVariables false
theorem blk_range {w : World} {b : Nat} {cells : Array Value} {t : TypeId} (hb : w.heap[b]? = some (.cells cells t (0, 0))) : w.rangeAt b 0 cells.toList := by
  intro j v e
  rw [Nat.zero_add, (cells_of hb).1 j, ← Array.getElem?_toList]
  exact e
theorem loadB_list {P : Program} {ops : Array Oper} {rest : List Oper} {op : Oper} {a : Act} {w : World} {Q : Exit → Act → World → Prop} (hgd : op.guard = none) (ty : TypeId) (x : Operand) (ho : op.op = .load ty x)
    (b : Nat) (cells : Array Value) (t : TypeId) (d : TypeDesc) (hx : a.eval x = .pointer (some ⟨b, 0, none⟩)) (hb : w.heap[b]? = some (.cells cells t (0, 0)))
    (hu : P.underlying ty = some d) (hd : d.isRow = true) (hi : (P.info? ty).map (·.size) = some cells.size)
    (h : wpList P ops Q rest (a.put op.dst (.agg cells)) w) : wpList P ops Q (op :: rest) a w :=
  wpList_load_mid hgd ty x ho b 0 hx cells.toList d (blk_range hb) hu hd (by simpa using hi) (by simpa using h)
end Go.Amb

namespace Go.Amb
open Go.RowKit
set_option linter.unusedVariables false
theorem storeM_list {P : Program} {ops : Array Oper} {rest : List Oper} {op : Oper} {a : Act} {w : World} {Q : Exit → Act → World → Prop} (hgd : op.guard = none) (ty : TypeId) (x y : Operand) (ho : op.op = .store ty x y)
    (b o : Nat) (cells old : Array Value) (t : TypeId) (hx : a.eval x = .pointer (some ⟨b, o, none⟩)) (hy : a.eval y = .agg cells) (hb : w.heap[b]? = some (.cells old t (0, 0))) (hl : o + cells.size ≤ old.size)
    (hi : (P.info? ty).map (·.size) = some cells.size) (h1 : cells.all (·.oneCell') = true)
    (h : ∀ w', w'.heap[b]? = some (.cells (old.toList.take o ++ cells.toList ++ old.toList.drop (o + cells.size)).toArray t (0, 0)) → Upd (fun k => k = b) w w' → wpList P ops Q rest (a.put op.dst undef) w') : wpList P ops Q (op :: rest) a w := by
  have hc := cells_of hb
  refine wpList_store_mid hgd ty x y ho b o cells hx hy (fun j hj => ⟨?_, hc.2 _⟩) hi h1 (h _ ?_ (upd_setCells b cells.toList o w))
  · rw [hc.1, Array.getElem?_eq_getElem (by omega)]; rfl
  · rw [heap_setCells b t cells.toList o w old hb (by simp; omega)]
    simp
end Go.Amb

namespace Go.Amb
open Go.RowKit
set_option linter.unusedVariables false
theorem storeC_list {P : Program} {ops : Array Oper} {rest : List Oper} {op : Oper} {a : Act} {w : World} {Q : Exit → Act → World → Prop} (hgd : op.guard = none) (ty : TypeId) (x y : Operand) (ho : op.op = .store ty x y)
    (b o : Nat) (v : Value) (old : Array Value) (t : TypeId) (hx : a.eval x = .pointer (some ⟨b, o, none⟩)) (hy : a.eval y = v) (hb : w.heap[b]? = some (.cells old t (0, 0))) (hl : o < old.size)
    (hi : (P.info? ty).map (·.size) = some 1) (hc : v.cells = #[v]) (h1 : v.oneCell' = true)
    (h : ∀ w', w'.heap[b]? = some (.cells (old.toList.take o ++ v :: old.toList.drop (o + 1)).toArray t (0, 0)) → Upd (fun k => k = b) w w' → wpList P ops Q rest (a.put op.dst undef) w') : wpList P ops Q (op :: rest) a w :=
  wpList_step fun K hK => step_store_cell hgd ty x y ho b o v old t hx hy hb hl hi hc h1 fun w' h2 h3 => hK _ _ (h w' h2 h3)
theorem run_loadC {P : Program} (w : World) (b o : Nat) (ty : TypeId) (v : Value) (d : TypeDesc) (hc : w.cell? ⟨b, o, none⟩ = some v) (hu : P.underlying ty = some d) (hd : d.isRow = false) :
    (loadVar ty ⟨b, o, none⟩).run P w = .ok v w := by
  have hagg : (isAgg ty).run P w = .ok false w := by
    unfold isAgg
    rw [Sem.run_bind, run_underlying hu w]
    cases d <;> simp_all
  simp [loadVar, Sem.run_bind, hagg, hc, go_sem]
/-- A cell of a block is loaded, not drawn. -/
theorem loadC_list {P : Program} {ops : Array Oper} {rest : List Oper} {op : Oper} {a : Act} {w : World} {Q : Exit → Act → World → Prop} (hgd : op.guard = none) (ty : TypeId) (x : Operand) (ho : op.op = .load ty x)
    (b o : Nat) (v : Value) (d : TypeDesc) (hx : a.eval x = .pointer (some ⟨b, o, none⟩)) (hc : w.cell? ⟨b, o, none⟩ = some v) (hu : P.underlying ty = some d) (hd : d.isRow = false)
    (h : wpList P ops Q rest (a.put op.dst v) w) : wpList P ops Q (op :: rest) a w := by
  refine wpList_plain hgd fun K hK => ?_
  unfold Oper.wp execOp
  simp only [ho, hx, Instr.loadAt, Instr.sureAddr, Sem.run_bind, Sem.run_pure, Result.andThen_ok, run_loadC w b o ty v d hc hu hd]
  exact hK _ _ h
end Go.Amb
