/- Rows of rows in memory: sectors, writes. No program stands here. -/
import Derived.Test.YtfjcjppfihafgaaMLib
import Derived.Deep.MidRow
import Derived.TacticsIn
namespace Go.Amb
open Go.RowKit
set_option linter.unusedVariables false
theorem fl_length {α : Type} {m : Nat} {L : List (List α)} (h : ∀ s ∈ L, s.length = m) : L.flatten.length = L.length * m := by
  induction L with
  | nil => simp
  | cons x L ih =>
    rw [List.flatten_cons, List.length_append, ih fun s hs => h s (List.mem_cons_of_mem _ hs), h x (List.mem_cons_self ..), List.length_cons, Nat.succ_mul, Nat.add_comm]
theorem fl_split {α : Type} {m : Nat} {L : List (List α)} (h : ∀ s ∈ L, s.length = m) (i : Nat) (hi : i < L.length) :
    L.flatten = (L.take i).flatten ++ L[i] ++ (L.drop (i + 1)).flatten ∧ (L.take i).flatten.length = i * m := by
  constructor
  · conv => lhs; rw [← List.take_append_drop i L, List.flatten_append, List.drop_eq_getElem_cons hi, List.flatten_cons, ← List.append_assoc]
  · rw [fl_length (m := m) fun s hs => h s (List.mem_of_mem_take hs), List.length_take, Nat.min_eq_left (by omega)]
theorem fl_get {α : Type} {m : Nat} {L : List (List α)} (h : ∀ s ∈ L, s.length = m) (i j : Nat) (hi : i < L.length) (hj : j < m) : L.flatten[i * m + j]? = L[i][j]? := by
  obtain ⟨h1, h2⟩ := fl_split h i hi
  have h3 := h L[i] (List.getElem_mem hi)
  rw [h1, List.append_assoc, List.getElem?_append_right (by omega), h2, List.getElem?_append_left (by omega)]
  congr 1; omega
theorem fl_set {α : Type} {m : Nat} {L : List (List α)} (h : ∀ s ∈ L, s.length = m) (i : Nat) (hi : i < L.length) (s : List α) :
    (L.set i s).flatten = L.flatten.take (i * m) ++ s ++ L.flatten.drop (i * m + m) := by
  obtain ⟨h1, h2⟩ := fl_split h i hi
  have h3 := h L[i] (List.getElem_mem hi)
  have e : (L.set i s).flatten = (L.take i).flatten ++ s ++ (L.drop (i + 1)).flatten := by
    rw [List.set_eq_take_append_cons_drop, if_pos hi, List.flatten_append, List.flatten_cons, ← List.append_assoc]
  rw [e, h1]
  clear e h1
  generalize (L.take i).flatten = A at *
  generalize L[i] = B at *
  generalize (L.drop (i + 1)).flatten = C at *
  have t1 : (A ++ B ++ C).take (i * m) = A := by rw [List.append_assoc, ← h2, List.take_left]
  have t2 : (A ++ B ++ C).drop (i * m + m) = C := by rw [show i * m + m = (A ++ B).length by rw [List.length_append]; omega, List.drop_left]
  rw [t1, t2]
theorem heap_setCells (g : Nat) (t : TypeId) : ∀ (vs : List Value) (o : Nat) (w : World) (cur : Array Value), w.heap[g]? = some (.cells cur t (0, 0)) → o + vs.length ≤ cur.size →
    (w.setCells g o vs).heap[g]? = some (.cells (cur.toList.take o ++ vs ++ cur.toList.drop (o + vs.length)).toArray t (0, 0))
  | [], o, w, cur, h, hl => by
    rw [World.setCells, h]
    simp
  | v :: r, o, w, cur, h, hl => by
    rw [List.length_cons] at hl
    rw [World.setCells, heap_setCells g t r (o + 1) _ (cur.setIfInBounds o v) (heap_setCell_same w g o cur t v h) (by rw [Array.size_setIfInBounds]; omega)]
    have hlen : o < cur.toList.length := by simp; omega
    congr 3
    rw [Array.toList_setIfInBounds, List.length_cons, List.drop_set_of_lt (by omega), List.set_eq_take_append_cons_drop, if_pos hlen,
      List.take_append, List.length_take, Nat.min_eq_left (by omega), List.take_of_length_le (by rw [List.length_take]; omega), show o + 1 - o = 1 by omega, List.take_succ_cons, List.take_zero,
      show o + 1 + r.length = o + (r.length + 1) by omega]
    simp
theorem upd_setCells (g : Nat) : ∀ (vs : List Value) (o : Nat) (w : World), Upd (fun k => k = g) w (w.setCells g o vs)
  | [], o, w => by rw [World.setCells]; exact Upd.refl _ _
  | v :: r, o, w => by
    rw [World.setCells]
    exact (Upd.setCell (S := fun k => k = g) w (a := ⟨g, o, none⟩) rfl v).trans (upd_setCells g r (o + 1) _) fun _ _ h => h
section
variable {w : World} {base : Nat} {e : TypeId} {m : Nat} {v : Value} {n : Nat} {L : List (List Value)}
/-- An owned row's row i lies there. -/
theorem own_range (h : w.ownsRow base e m v n L.flatten) (hL : ∀ s ∈ L, s.length = m) (hn : L.length = n) (i : Nat) (hi : i < n) : ∃ g c, v = .slice (some ⟨g, 0, none⟩) n c ∧ At v g ∧ n ≤ c ∧ c ≤ maxLen ∧ w.rangeAt g (i * m) (L[i]'(by omega)) ∧ w.there g (i * m) m := by
  rcases h.2 with ⟨rfl, rfl⟩ | ⟨g, cap, cur, rfl, hb, hg, hnc, hcm, hcs, htake⟩
  · omega
  · have hsz : i * m + m ≤ n * m := by rw [← Nat.succ_mul]; exact Nat.mul_le_mul_right _ hi
    have hcap : n * m ≤ cap * m := Nat.mul_le_mul_right _ hnc
    have hc := cells_of hg
    refine ⟨g, cap, rfl, rfl, hnc, hcm, ?_, ?_⟩
    · intro j u hu
      have hjm : j < m := by rw [← hL _ (List.getElem_mem (by omega : i < L.length))]; exact (List.getElem?_eq_some_iff.1 hu).1
      rw [hc.1, ← Array.getElem?_toList]
      have h2 := fl_get hL i j (by omega) hjm
      rw [← htake, List.getElem?_take, if_pos (by omega)] at h2
      rw [h2]; exact hu
    · intro j hj
      refine ⟨?_, hc.2 _⟩
      rw [hc.1, Array.getElem?_eq_getElem (by omega)]; rfl
/-- One row of an owned row is stored. -/
theorem own_setRow (h : w.ownsRow base e m v n L.flatten) (hL : ∀ s ∈ L, s.length = m) (hn : L.length = n) (i : Nat) (hi : i < n) (s : List Value) (hs : s.length = m) {g : Nat} (hg : At v g) :
    (w.setCells g (i * m) s).ownsRow base e m v n (L.set i s).flatten := by
  rcases h.2 with ⟨rfl, rfl⟩ | ⟨g', cap, cur, rfl, hb, hgg, hnc, hcm, hcs, htake⟩
  · omega
  · obtain rfl : g' = g := by simpa [At, Value.ownBlock] using hg
    have hsz : i * m + m ≤ n * m := by rw [← Nat.succ_mul]; exact Nat.mul_le_mul_right _ hi
    have hcap : n * m ≤ cap * m := Nat.mul_le_mul_right _ hnc
    have hfl := fl_length hL
    have hne := heap_setCells g' e s (i * m) w cur hgg (by omega)
    have hls : (L.set i s).flatten.length = n * m := by
      rw [fl_length (m := m), List.length_set, hn]
      intro x hx
      rcases List.mem_or_eq_of_mem_set hx with h | rfl
      · exact hL x h
      · exact hs
    refine ⟨hls, .inr ⟨g', cap, _, rfl, hb, hne, hnc, hcm, ?_, ?_⟩⟩
    · simp; omega
    · have hX : cur.toList = L.flatten ++ cur.toList.drop (n * m) := by rw [← htake, List.take_append_drop]
      rw [fl_set hL i (by omega) s]
      generalize cur.toList.drop (n * m) = R at hX
      have h1 : L.flatten.length = n * m := by rw [hfl, hn]
      rw [hX, hs, List.toList_toArray]
      have t1 : (L.flatten ++ R).take (i * m) = L.flatten.take (i * m) := List.take_append_of_le_length (by omega)
      have t2 : (L.flatten ++ R).drop (i * m + m) = L.flatten.drop (i * m + m) ++ R := List.drop_append_of_le_length (by omega)
      rw [t1, t2, ← List.append_assoc, List.take_append_of_le_length (by rw [← fl_set hL i (by omega) s]; omega), List.take_of_length_le (by rw [← fl_set hL i (by omega) s]; omega)]
end
end Go.Amb
namespace Go.Amb
open Go.RowKit
/-! ### The load and the store of many cells, as the walk meets them in a plain list; in a round or not -/
theorem wpIn_load_mid {F : Fence} {n : Nat} {P : Program} {op : Oper} {a : Act} {w : World} {K : Act → World → Prop} {Q : Exit → Act → World → Prop} (ty : TypeId) (x : Operand) (ho : op.op = .load ty x)
    (b o : Nat) (hx : a.eval x = .pointer (some ⟨b, o, none⟩)) (cs : List Value) (d : TypeDesc) (hc : w.rangeAt b o cs)
    (hu : P.underlying ty = some d) (hd : d.isRow = true) (hi : (P.info? ty).map (·.size) = some cs.length)
    (h : K (a.put op.dst (.agg cs.toArray)) w) : op.wpIn F n P a w K Q := by
  unfold Oper.wpIn
  refine ⟨by simp [Oper.about, ho], ?_⟩
  rw [Oper.semAt_eq _ _ _ (by rw [ho]; intro c hc'; cases hc')]
  unfold execOp
  simp only [ho, hx, Instr.loadAt, Instr.sureAddr, Sem.run_bind, Sem.run_pure, Result.andThen_ok, run_loadVar_mid w b o ty cs d hc hu hd hi]
  exact h
theorem wpListIn_load_mid {F : Fence} {n : Nat} {P : Program} {ops : Array Oper} {rest : List Oper} {op : Oper} {a : Act} {w : World} {Q : Exit → Act → World → Prop} (hgd : op.guard = none) (ty : TypeId) (x : Operand) (ho : op.op = .load ty x)
    (b o : Nat) (hx : a.eval x = .pointer (some ⟨b, o, none⟩)) (cs : List Value) (d : TypeDesc) (hc : w.rangeAt b o cs)
    (hu : P.underlying ty = some d) (hd : d.isRow = true) (hi : (P.info? ty).map (·.size) = some cs.length)
    (h : wpListIn F n P ops Q rest (a.put op.dst (.agg cs.toArray)) w) : wpListIn F n P ops Q (op :: rest) a w :=
  wpListIn_plain hgd fun _ hK => wpIn_load_mid ty x ho b o hx cs d hc hu hd hi (hK _ _ h)
theorem wpIn_store_mid {F : Fence} {n : Nat} {P : Program} {op : Oper} {a : Act} {w : World} {K : Act → World → Prop} {Q : Exit → Act → World → Prop} (ty : TypeId) (x y : Operand) (ho : op.op = .store ty x y)
    (b o : Nat) (cells : Array Value) (hx : a.eval x = .pointer (some ⟨b, o, none⟩)) (hy : a.eval y = .agg cells)
    (ht : w.there b o cells.size) (hi : (P.info? ty).map (·.size) = some cells.size) (h1 : cells.all (·.oneCell') = true)
    (h : K (a.put op.dst undef) (w.setCells b o cells.toList)) : op.wpIn F n P a w K Q := by
  unfold Oper.wpIn
  refine ⟨by simp [Oper.about, ho], ?_⟩
  rw [Oper.semAt_eq _ _ _ (by rw [ho]; intro c hc'; cases hc')]
  unfold execOp
  simp only [ho, hx, hy, Instr.storeAt, Instr.sureAddr, Sem.run_bind, Sem.run_pure, Result.andThen_ok, run_storeVar_mid w b o ty cells ht hi h1]
  exact h
theorem wpListIn_store_mid {F : Fence} {n : Nat} {P : Program} {ops : Array Oper} {rest : List Oper} {op : Oper} {a : Act} {w : World} {Q : Exit → Act → World → Prop} (hgd : op.guard = none) (ty : TypeId) (x y : Operand) (ho : op.op = .store ty x y)
    (b o : Nat) (cells : Array Value) (hx : a.eval x = .pointer (some ⟨b, o, none⟩)) (hy : a.eval y = .agg cells)
    (ht : w.there b o cells.size) (hi : (P.info? ty).map (·.size) = some cells.size) (h1 : cells.all (·.oneCell') = true)
    (h : wpListIn F n P ops Q rest (a.put op.dst undef) (w.setCells b o cells.toList)) : wpListIn F n P ops Q (op :: rest) a w :=
  wpListIn_plain hgd fun _ hK => wpIn_store_mid ty x y ho b o cells hx hy ht hi h1 (hK _ _ h)
end Go.Amb
