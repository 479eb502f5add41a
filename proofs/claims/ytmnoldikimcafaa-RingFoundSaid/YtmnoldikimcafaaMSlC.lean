/- Slots as cells; append in a round's frame; slot.pieces; slot.Cut. -/
import Derived.Test.YtmnoldikimcafaaMSlA
import Derived.Test.YtmnoldikimcafaaMLib
namespace Go.Amb
open Go.RowKit
set_option linter.unusedVariables false
/-- A cell of an owned row is written. -/
theorem own_set {w : World} {base g n cap : Nat} {e : TypeId} {size : Nat} {xs : List Value} (h : w.ownsRow base e size (.slice (some ⟨g, 0, none⟩) n cap) n xs) (k : Nat) (hk : k < xs.length) (u : Value) :
    (w.setCell ⟨g, k, none⟩ u).ownsRow base e size (.slice (some ⟨g, 0, none⟩) n cap) n (xs.set k u) := by
  refine ⟨by rw [List.length_set]; exact h.1, ?_⟩
  rcases h.2 with ⟨hv, _⟩ | ⟨g', cap', cur, hv, hb, hg, hnc, hcm, hcs, ht⟩
  · cases hv
  · injection hv with h1 h2 h3
    injection h1 with h1
    injection h1 with h1
    subst h1; subst h3
    refine .inr ⟨g, cap, _, rfl, hb, heap_setCell_same _ g k _ _ _ hg, hnc, hcm, by simpa using hcs, ?_⟩
    have hl := h.1
    simp only [Array.toList_setIfInBounds, Array.set!_eq_setIfInBounds]
    rw [← ht] at hk ⊢
    rw [List.length_take] at hk
    rw [List.take_set]
theorem own_free {w : World} {base g n cap : Nat} {e : TypeId} {size : Nat} {xs : List Value} (h : w.ownsRow base e size (.slice (some ⟨g, 0, none⟩) n cap) n xs) (k : Nat) (hk : k < xs.length) :
    w.cell? ⟨g, k, none⟩ = some (xs[k]) ∧ w.frozen? ⟨g, k, none⟩ = false := by
  refine ⟨?_, ?_⟩
  · have := h.cells (g := g) rfl k _ (List.getElem?_eq_getElem hk)
    rwa [Addr.add_lit, Nat.zero_add] at this
  · rcases h.2 with ⟨hv, _⟩ | ⟨g', cap', cur, hv, hb, hg, _⟩
    · cases hv
    · injection hv with h1 h2 h3
      injection h1 with h1
      injection h1 with h1
      subst h1
      unfold World.frozen?; simp [hg]
theorem wpListIn_app1 {F : Fence} {m : Nat} {P : Program} {w : World} {ops : Array Oper} {rest : List Oper} {o : Oper} {a : Act} {Q : Exit → Act → World → Prop} (hgd : o.guard = none) (s x : Operand) (t : TypeId)
    (ho : o.op = .call { callee := .builtin .append, args := #[s, x], argTypes := #[t, t] })
    (base : Nat) (e : TypeId) (z : Value) (size bytes : Nat) (ht : P.underlying t = some (.slice e)) (hinfo : (P.info? e).map (fun i => (i.zero, i.size, i.bytes)) = some (some z, size, bytes))
    (hzs : z.cells.size = size)
    (v : Value) (n : Nat) (xs : List Value) (hs : a.eval s = v) (hown : w.ownsRow base e size v n xs) (cs : List Value) (N : Nat)
    (hx : a.eval x = .slice (some ⟨N, 0, none⟩) 1 1) (hN : N = w.heap.size) (hl : cs.length = size) (h1 : ∀ u ∈ cs, u.oneCell' = true)
    (h63 : n + 1 ≤ maxLen) (hbytes : (n + 1) * bytes ≤ 140737488355328) (hbase : base ≤ w.heap.size)
    (h : ∀ v' w', w'.ownsRow base e size v' (n + 1) (xs ++ cs) → Upd (At v) w w' → (∀ k, At v' k → At v k ∨ w.heap.size ≤ k) → wpListIn F m P ops Q rest (a.put o.dst v') w') : wpListIn F m P ops Q (o :: rest) a (w.alloc (.cells cs.toArray e)) := by
  subst hN
  obtain ⟨i, hi, hz, hsize, hby⟩ := info_parts hinfo
  refine wpListIn_plain hgd fun K hK => ?_
  have hsrc : Src P size t (.slice (some ⟨w.heap.size, 0, none⟩) 1 1) 1 cs (w.alloc (.cells cs.toArray e)) := Src.ofHas ht (has_new w cs e size 1 (by omega) (by unfold maxLen; omega)) h1
  obtain ⟨v', w', hr, h2, h3, h4, _⟩ := run_app (P := P) (w.alloc (.cells cs.toArray e)) base t t o.type e i z size bytes ht hi hz hsize hby hzs v n xs (hown.alloc _) _ 1 cs hsrc h63 hbytes (by simp; omega)
  unfold Oper.wpIn
  refine ⟨by simp [Oper.about, ho, resolve, Target.leads, Sem.run_pure], ?_⟩
  rw [Oper.semAt_plain F _ _ (by rw [ho]; intro c hc'; cases hc')]
  simp [execOp, ho, resolve, invoke, builtin, hs, hx, hr, Result.andThen]
  exact hK _ _ (h v' w' h2 ((Upd.alloc (At v) w _).trans h3 fun _ _ h => h) fun k hk => (h4 k hk).imp id fun h => by simp at h; omega)
theorem Upd.others {S : Nat → Prop} {w w' : World} (hu : Upd S w w') (hS : ∀ k o, S k → w.heap[k]? = some o → o.isCells = true) : KeepsOthers w w' :=
  ⟨hu.size, fun k o hk ho => hu.heap hk fun hs => by rw [hS k o hs hk] at ho; cases ho⟩
theorem own_cells {w : World} {base : Nat} {e : TypeId} {size : Nat} {v : Value} {n : Nat} {xs : List Value} (h : w.ownsRow base e size v n xs) : ∀ k o, At v k → w.heap[k]? = some o → o.isCells = true := by
  intro k o hk ho
  rcases h.2 with ⟨rfl, _⟩ | ⟨g, cap, cur, rfl, _, hg, _⟩
  · simp [At, Value.ownBlock] at hk
  · have : g = k := by simpa [At, Value.ownBlock] using hk
    subst this; rw [hg] at ho; cases ho; rfl
theorem own_rowform {w : World} {base : Nat} {e : TypeId} {size : Nat} {v : Value} {m : Nat} {xs : List Value} (h : w.ownsRow base e size v m xs) (hm : 0 < m) : ∃ g cap, v = .slice (some ⟨g, 0, none⟩) m cap ∧ base ≤ g ∧ g < w.heap.size ∧ m ≤ cap := by
  rcases h.2 with ⟨rfl, h1⟩ | ⟨g, cap, cur, rfl, hb, hg, hnc, _⟩
  · omega
  · exact ⟨g, cap, rfl, hb, heap_lt hg, hnc⟩
/-- A slot. -/
structure S5 where
  e : Int
  q : Int
  f : Bool
  l : Bool
  d : List UInt8
deriving DecidableEq
abbrev S5.c (x : S5) : List Value := [.int .i64 x.e, .int .i64 x.q, .bool x.f, .bool x.l, .string ⟨x.d.toArray⟩]
/-- Slots as cells. -/
def sc (l : List S5) : List Value := l.flatMap S5.c
theorem sc_append (a b : List S5) : sc (a ++ b) = sc a ++ sc b := by simp [sc]
theorem sc_length (l : List S5) : (sc l).length = l.length * 5 := by
  induction l with
  | nil => rfl
  | cons p l ih =>
    show (p.c ++ sc l).length = _
    rw [List.length_append, ih]; simp; omega
theorem sc_get (l : List S5) : ∀ (k : Nat) (h : k < l.length), (sc l)[k * 5]? = some (.int .i64 l[k].e) ∧ (sc l)[k * 5 + 1]? = some (.int .i64 l[k].q) ∧ (sc l)[k * 5 + 2]? = some (.bool l[k].f) ∧ (sc l)[k * 5 + 3]? = some (.bool l[k].l) ∧ (sc l)[k * 5 + 4]? = some (.string ⟨l[k].d.toArray⟩) := by
  induction l with
  | nil => intro k h; cases h
  | cons p l ih =>
    intro k h
    cases k with
    | zero => exact ⟨rfl, rfl, rfl, rfl, rfl⟩
    | succ k =>
      have := ih k (by simpa using h)
      rw [show (k + 1) * 5 = k * 5 + 5 by omega, show k * 5 + 5 + 1 = k * 5 + 1 + 5 by omega, show k * 5 + 5 + 2 = k * 5 + 2 + 5 by omega, show k * 5 + 5 + 3 = k * 5 + 3 + 5 by omega, show k * 5 + 5 + 4 = k * 5 + 4 + 5 by omega]
      exact this
theorem sc_one (l : List S5) : ∀ u ∈ sc l, u.oneCell' = true := by
  intro u hu
  obtain ⟨p, _, hp⟩ := List.mem_flatMap.1 hu
  simp only [S5.c, List.mem_cons, List.not_mem_nil, or_false] at hp
  rcases hp with rfl | rfl | rfl | rfl | rfl <;> rfl
/-- The last slot's Last is set. -/
theorem sc_last (l : List S5) (x : S5) (b : Bool) : (sc (l ++ [x])).set (l.length * 5 + 3) (.bool b) = sc (l ++ [{ x with l := b }]) := by
  rw [sc_append, sc_append, List.set_append_right _ _ (by rw [sc_length]; omega), sc_length, show l.length * 5 + 3 - l.length * 5 = 3 by omega]
  rfl
/-- A slice of slots; one of the call's own. -/
abbrev SlotsAt (w : World) (v : Value) (l : List S5) : Prop := Has w 5 v l.length (sc l)
abbrev OwnS (T : TypeId) (w0 w : World) (v : Value) (l : List S5) : Prop := w.ownsRow w0.heap.size T 5 v l.length (sc l)
theorem own_slots {w : World} {base : Nat} {T : TypeId} {v : Value} {l l' : List S5} {N : Nat} (h : w.ownsRow base T 5 v N (sc l ++ sc l')) (hN : N = l.length + l'.length) : w.ownsRow base T 5 v (l ++ l').length (sc (l ++ l')) := by
  rw [sc_append, List.length_append, ← hN]; exact h
/-- The slots of a record: ahead of the end, the Last not set yet; as they are told. -/
def cutP (e q : Int) (s : List UInt8) (k : Nat) : List S5 := (List.range k).map fun (i : Nat) => ⟨e, q + i, decide (i = 0), false, pieceB s i⟩
def cutS (e q : Int) (s : List UInt8) : List S5 := (List.range (pieceN s)).map fun (i : Nat) => ⟨e, q + i, decide (i = 0), decide (i + 1 = pieceN s), pieceB s i⟩
theorem cutP_succ (e q : Int) (s : List UInt8) (k : Nat) : cutP e q s (k + 1) = cutP e q s k ++ [⟨e, q + k, decide (k = 0), false, pieceB s k⟩] := by simp [cutP, List.range_succ]
theorem cutP_length (e q : Int) (s : List UInt8) (k : Nat) : (cutP e q s k).length = k := by simp [cutP]
theorem pieceN_pos (s : List UInt8) : 1 ≤ pieceN s := by unfold pieceN; omega
theorem cutS_last (e q : Int) (s : List UInt8) (m : Nat) (hm : pieceN s = m + 1) : cutS e q s = cutP e q s m ++ [⟨e, q + m, decide (m = 0), true, pieceB s m⟩] := by
  unfold cutS cutP
  rw [hm, List.range_succ, List.map_append]
  congr 1
  · refine List.map_congr_left fun i hi => ?_
    have := List.mem_range.1 hi
    simp; omega
  · simp
theorem cutS_length (e q : Int) (s : List UInt8) : (cutS e q s).length = pieceN s := by simp [cutS]
end Go.Amb

namespace Go.Amb
open Go.RowKit
theorem Upd.putObj {S : Nat → Prop} {w W : World} (h : Upd S w W) {l : Nat} (hl : w.heap.size ≤ l) (o : Obj) : Upd S w (W.putObj l o) :=
  ⟨h.os, h.tape, h.output, by simpa using h.size, fun k hk hn => (World.putObj_heap_other (by omega)).trans (h.block k hk hn)⟩
theorem own_put {w : World} {base : Nat} {e : TypeId} {size : Nat} {v : Value} {n : Nat} {xs : List Value} (h : w.ownsRow base e size v n xs) {l : Nat} {o : Obj} (ho : w.heap[l]? = some o) (hc : o.isCells = false) (o' : Obj) : (w.putObj l o').ownsRow base e size v n xs := by
  refine ⟨h.1, ?_⟩
  rcases h.2 with hv | ⟨g, cap, cur, hv, hb, hg, rest⟩
  · exact .inl hv
  · refine .inr ⟨g, cap, cur, hv, hb, ?_, rest⟩
    have : g ≠ l := fun e => by subst e; rw [hg] at ho; cases ho; cases hc
    exact (World.putObj_heap_other this).trans hg
theorem cell_put {w : World} {a : Addr} {v : Value} (h : w.cell? a = some v) {l : Nat} {o : Obj} (ho : w.heap[l]? = some o) (hc : o.isCells = false) (o' : Obj) : (w.putObj l o').cell? a = some v :=
  cell_kept h (grownBy_putObj' w l o') fun r e => by cases e; exact ⟨o, ho, hc⟩
theorem frozen_put {w : World} {a : Addr} {v : Value} (h : w.cell? a = some v) {l : Nat} {o : Obj} (ho : w.heap[l]? = some o) (hc : o.isCells = false) (o' : Obj) : (w.putObj l o').frozen? a = w.frozen? a :=
  frozen_kept h (grownBy_putObj' w l o') fun r e => by cases e; exact ⟨o, ho, hc⟩
theorem Upd.own3 {S : Nat → Prop} {w w1 : World} {ca cb cc : Array Value} {ea eb ec : TypeId} (hu : Upd S (((w.alloc (.cells ca ea)).alloc (.cells cb eb)).alloc (.cells cc ec)) w1) (hS : ∀ k, S k → k < w.heap.size) :
    (∀ j, w1.cell? ⟨w.heap.size, j, none⟩ = ca[j]?) ∧ (∀ j, w1.cell? ⟨w.heap.size + 1, j, none⟩ = cb[j]?) ∧ (∀ j, w1.cell? ⟨w.heap.size + 1 + 1, j, none⟩ = cc[j]?) ∧ (∀ j, w1.frozen? ⟨w.heap.size + 1 + 1, j, none⟩ = false) ∧ w.heap.size + 3 ≤ w1.heap.size ∧ Upd S w w1 := by
  have h1 : w1.heap[w.heap.size]? = some (.cells ca ea (0, 0)) :=
    (((((Upd.refl S _).then_alloc _).then_alloc _).trans hu fun _ _ h => h)).heap (heap_alloc_new w _) fun h => by have := hS _ h; omega
  have h2 : w1.heap[w.heap.size + 1]? = some (.cells cb eb (0, 0)) := by
    have := ((((Upd.refl S ((w.alloc (.cells ca ea)).alloc (.cells cb eb))).then_alloc _).trans hu fun _ _ h => h)).heap (heap_alloc_new (w.alloc (.cells ca ea)) (.cells cb eb)) fun h => by have := hS _ h; simp at this; omega
    simpa using this
  have h3 : w1.heap[w.heap.size + 1 + 1]? = some (.cells cc ec (0, 0)) := by
    have := hu.heap (heap_alloc_new ((w.alloc (.cells ca ea)).alloc (.cells cb eb)) (.cells cc ec)) fun h => by have := hS _ h; simp at this; omega
    simpa using this
  refine ⟨(cells_of h1).1, (cells_of h2).1, (cells_of h3).1, (cells_of h3).2, ?_, (((((Upd.refl S _).then_alloc _).then_alloc _).then_alloc _).trans hu fun _ _ h => h)⟩
  have := hu.size; simp at this; omega
end Go.Amb
namespace Go.Proofs.Ytmnoldikimcafaa
set_option maxRecDepth 100000
open Go.RowKit Go.Amb Go.Shelf
set_option linter.unusedVariables false
set_option linter.unusedSimpArgs false
theorem info_slot : (Try.prog.info? 56).map (fun i => (i.zero, i.size, i.bytes)) = some (some (.agg #[.int .i64 0, .int .i64 0, .bool false, .bool false, .string ⟨#[]⟩]), 5, 40) := rfl
theorem cPieces (s : List UInt8) (w : World) : Calls Try.prog 44 #[.string ⟨s.toArray⟩] w (fun e w' => e = .returned (.func (.func 58) #[] #[.pointer (some ⟨w.heap.size, 0, none⟩)]) ∧ w' = w.alloc (.cells #[.string ⟨s.toArray⟩] 9)) := by
  go_enter Try.func44, Try.ntmps44
  go_wp2_with fail
  go_ret
  exact ⟨rfl, rfl⟩
/-- How a cut stands, i pieces having come. -/
structure CutAt (s : List UInt8) (e q : Int) (w : World) (i : Nat) (W : World) : Prop where
  c0 : W.cell? ⟨w.heap.size, 0, none⟩ = some (.int .i64 e)
  c1 : W.cell? ⟨w.heap.size + 1, 0, none⟩ = some (.int .i64 q)
  out : ∃ v, W.cell? ⟨w.heap.size + 1 + 1, 0, none⟩ = some v ∧ W.frozen? ⟨w.heap.size + 1 + 1, 0, none⟩ = false ∧ OwnS 56 w W v (cutP e q s i) ∧ ∀ k, At v k → w.heap.size + 4 ≤ k
  upd : Upd Non w W
  size : w.heap.size + 4 ≤ W.heap.size
theorem CutAt.next {s : List UInt8} {e q : Int} {w W W' : World} {i : Nat} {S : Nat → Prop} (h : CutAt s e q w i W) (hu : Upd S W W') (hS : ∀ k, S k → w.heap.size + 3 = k) : CutAt s e q w i W' := by
  obtain ⟨c0, c1, ⟨v, c2, f2, ho, hv⟩, hu0, hsz⟩ := h
  have h3 := hu.size
  refine ⟨hu.cell c0 fun h => ?_, hu.cell c1 fun h => ?_, ⟨v, hu.cell c2 fun h => ?_, (World.frozen?_of_block (a := ⟨w.heap.size + 1 + 1, 0, none⟩) (hu.block (w.heap.size + 1 + 1) (by omega) fun h => ?_)).trans f2, hu.owns ho fun k hk h => ?_, hv⟩, hu0.trans hu fun j hj h => ?_, by omega⟩
  · have : _ + 3 = w.heap.size := hS _ h; omega
  · have : _ + 3 = w.heap.size + 1 := hS _ h; omega
  · have : _ + 3 = w.heap.size + 1 + 1 := hS _ h; omega
  · have := hS _ h; omega
  · have := hS _ h; have := hv k hk; omega
  · have := hS _ h; omega
theorem CutAt.put {s : List UInt8} {e q : Int} {w W : World} {i : Nat} (h : CutAt s e q w i W) {l : Nat} {o : Obj} (hl : w.heap.size ≤ l) (ho : W.heap[l]? = some o) (hc : o.isCells = false) (o' : Obj) : CutAt s e q w i (W.putObj l o') := by
  obtain ⟨c0, c1, ⟨v, c2, f2, how, hv⟩, hu0, hsz⟩ := h
  exact ⟨cell_put c0 ho hc _, cell_put c1 ho hc _, ⟨v, cell_put c2 ho hc _, (frozen_put c2 ho hc _).trans f2, own_put how ho hc _, hv⟩, hu0.putObj hl _, by simpa using hsz⟩
set_option maxRecDepth 100000
attribute [local go_sem] Oper.semAt_some
set_option maxHeartbeats 2000000 in
theorem cut_run (s : List UInt8) (e q : Int) (w : World) (hs : s.length ≤ 16384) (he : 0 ≤ e ∧ e ≤ 2147483647) (hq : 0 ≤ q ∧ q ≤ 1152921504606846976) : Calls Try.prog 26 #[.string ⟨s.toArray⟩, .int .i64 e, .int .i64 q] w
    (fun en w' => (q + pieceN s ≤ 1152921504606846977 ∧ ∃ v, en = .returned (.tuple #[v, .int .i64 0]) ∧ OwnS 56 w w' v (cutS e q s) ∧ Upd Non w w') ∨ (¬ q + pieceN s ≤ 1152921504606846977 ∧ en = .returned (.tuple #[.slice none 0 0, .int .i64 2]) ∧ Upd Non w w')) := by
  obtain ⟨R, hR⟩ : ∃ R : Ending → World → Prop, R = (fun en w' => (q + pieceN s ≤ 1152921504606846977 ∧ ∃ v, en = .returned (.tuple #[v, .int .i64 0]) ∧ OwnS 56 w w' v (cutS e q s) ∧ Upd Non w w') ∨ (¬ q + pieceN s ≤ 1152921504606846977 ∧ en = .returned (.tuple #[.slice none 0 0, .int .i64 2]) ∧ Upd Non w w')) := ⟨_, rfl⟩
  rw [← hR]
  replace hR := Lib.hid hR
  have hN := pieceN_pos s
  have hs' : ¬ (16384 : Int) < (s.length : Int) := by omega
  have he1 : ¬ e < 0 := by omega
  have he2 : ¬ 2147483647 < e := by omega
  have hq1 : ¬ q < 0 := by omega
  have hq2 : ¬ 1152921504606846976 < q := by omega
  have hpc := Lib.hid (cPieces s)
  refine (callsIn_wide (n := 5)).1 (callsIn_of_wp_marks Try.func26 rfl trivial (wpIn_wide.2 ?_) rfl)
  simp only [Try.ntmps26, List.size_toArray, List.length_cons, List.length_nil, Nat.reduceAdd, Nat.reduceSub, Array.replicate_succ, Array.replicate_zero, List.push_toArray, List.append_toArray, List.nil_append, List.cons_append]
  go_wp2_with fail
  refine (hpc.out _).mono ?_
  rintro e1 w1 ⟨rfl, rfl⟩
  go_wp2_with fail
  have hW0 : CutAt s e q w 0 ((((w.alloc (.cells #[.int .i64 e] 3)).alloc (.cells #[.int .i64 q] 3)).alloc (.cells #[.slice none 0 0] 52)).alloc (.cells #[.string ⟨s.toArray⟩] 9)) := by
    have h := (Upd.refl Non ((((w.alloc (.cells #[.int .i64 e] 3)).alloc (.cells #[.int .i64 q] 3)).alloc (.cells #[.slice none 0 0] 52)))).then_alloc (.cells #[.string ⟨s.toArray⟩] 9)
    have h3 := h.own3 (fun _ h => h.elim)
    exact ⟨h3.1 0, h3.2.1 0, ⟨_, h3.2.2.1 0, h3.2.2.2.1 0, World.ownsRow_nil _ _ _ _, fun k hk => by simp [At, Value.ownBlock] at hk⟩, h3.2.2.2.2.2, by simp⟩
  have hbx : ((((w.alloc (.cells #[.int .i64 e] 3)).alloc (.cells #[.int .i64 q] 3)).alloc (.cells #[.slice none 0 0] 52)).alloc (.cells #[.string ⟨s.toArray⟩] 9)).heap[w.heap.size + 1 + 1 + 1]? = some (.cells #[.string ⟨s.toArray⟩] 9 (0, 0)) := by
    have := heap_alloc_new (((w.alloc (.cells #[.int .i64 e] 3)).alloc (.cells #[.int .i64 q] 3)).alloc (.cells #[.slice none 0 0] 52)) (.cells #[.string ⟨s.toArray⟩] 9)
    simpa using this
  have hsz0 : ((((w.alloc (.cells #[.int .i64 e] 3)).alloc (.cells #[.int .i64 q] 3)).alloc (.cells #[.slice none 0 0] 52)).alloc (.cells #[.string ⟨s.toArray⟩] 9)).heap.size = w.heap.size + 4 := by simp
  generalize (((w.alloc (.cells #[.int .i64 e] 3)).alloc (.cells #[.int .i64 q] 3)).alloc (.cells #[.slice none 0 0] 52)).alloc (.cells #[.string ⟨s.toArray⟩] 9) = W0 at hW0 hbx hsz0 ⊢
  refine wp_rangeBox (gf := 58) (lb := #[.pointer (some ⟨w.heap.size + 1 + 1 + 1, 0, none⟩)]) rfl (enters_of Try.func58 (by kernel_rfl) rfl) (iter_pieces s hs (w.heap.size + 1 + 1 + 1)) hbx (fun _ => rfl)
    (CutAt s e q w) (fun i W v h => h.next (Upd.setCell (S := fun k => w.heap.size + 3 = k) W (a := ⟨w.heap.size + 1 + 1 + 1, 0, none⟩) rfl v) fun _ h => h) (fun i W o h => h.next (Upd.alloc Non W o) fun _ h => h.elim)
    (fun i W l o o' hl ho hc h => h.put (by omega) ho hc o') hW0
    (fun i => { tmps := #[.string ⟨s.toArray⟩, .int .i64 e, .int .i64 q, undef, .pointer (some ⟨w.heap.size, 0, none⟩), .pointer (some ⟨w.heap.size + 1, 0, none⟩), .slice none 0 0, .int .i64 0, .pointer (some ⟨w.heap.size + 1 + 1, 0, none⟩), .int .i64 (i : Int), .string ⟨(pieceB s i).toArray⟩, undef,
      .string ⟨s.toArray⟩, .int .i64 (s.length : Int), .bool false, .int .i64 e, .bool false, .bool false, .int .i64 e, .bool false, .bool false, .bool false, .int .i64 q, .bool false, .bool false, .bool false, .int .i64 q, .bool false, .bool false, .string ⟨s.toArray⟩,
      .func (.func 58) #[] #[.pointer (some ⟨w.heap.size + 1 + 1 + 1, 0, none⟩)], .int .i64 (i : Int), .string ⟨(pieceB s i).toArray⟩, undef, undef, undef, undef, undef, undef, undef, undef, undef, undef, undef, undef, undef, undef, undef, undef, undef, undef, undef, undef, undef, undef, undef, undef, undef], defers := [] }) ?assign ?body ?done
  case assign =>
    intro l i W K hK
    unfold pieceE
    gi_wp2
    exact hK
  case body =>
    rintro l i W hi ⟨c0, c1, ⟨v, c2, f2, ho, hv⟩, hu0, hsz⟩
    have hN2 : pieceN s ≤ 152 := by unfold pieceN; omega
    have hw1 : IntKind.i64.wrap (q + (i : Int)) = q + (i : Int) := IntWalk.i64_in _ ⟨by omega, by omega⟩
    have hpl := cutP_length e q s i
    generalize hpb : pieceB s i = d at *
    generalize hcp : cutP e q s i = L at *
    have hinf := Lib.hid (@info_slot)
    gi_wp2_with (gi_at_builtin; refine wpListIn_app1 rfl _ _ 52 rfl w.heap.size 56 (.agg #[.int .i64 0, .int .i64 0, .bool false, .bool false, .string ⟨#[]⟩]) 5 40 Try.underlying52 hinf.out rfl _ _ _ rfl ho [.int .i64 e, .int .i64 (q + (i : Int)), .bool ((i : Int) == 0), .bool false, .string ⟨d.toArray⟩] W.heap.size rfl rfl rfl (sc_one [⟨e, q + (i : Int), (i : Int) == 0, false, d⟩]) (by unfold maxLen; omega) (by omega) (by omega) ?_)
    intro v3 w3 ho3 hu3 hf3
    obtain ⟨g3, cap3, rfl, hg3, hg3l, hc3⟩ := own_rowform ho3 (by omega)
    have d0 := hu3.cell c0 fun h => by have := hv _ h; dsimp only at this; omega
    have d1 := hu3.cell c1 fun h => by have := hv _ h; dsimp only at this; omega
    have d2 := hu3.cell c2 fun h => by have := hv _ h; dsimp only at this; omega
    have e2 : w3.frozen? ⟨w.heap.size + 1 + 1, 0, none⟩ = false := (World.frozen?_of_block (a := ⟨w.heap.size + 1 + 1, 0, none⟩) (hu3.block (w.heap.size + 1 + 1) (by omega) fun h => by have := hv _ h; omega)).trans f2
    have hko : KeepsOthers W w3 := hu3.others (own_cells ho)
    have hk3 : w3.heap[w.heap.size + 3]? = W.heap[w.heap.size + 3]? := hu3.block _ (by omega) fun h => by have := hv _ h; omega
    have hvg : w.heap.size + 4 ≤ g3 := by rcases hf3 g3 (by simp [At, Value.ownBlock]) with h | h; exact hv _ h; omega
    have hU3 : Upd Non w w3 := hu0.trans hu3 fun j hj h => by have := hv _ h; omega
    have hl3 := hu3.size
    clear hf3 hv ho hu3 c2 f2 hu0
    gi_wp2
    have hus : Upd (fun k => k = w.heap.size + 2) w3 (w3.setCell ⟨w.heap.size + 1 + 1, 0, none⟩ (.slice (some ⟨g3, 0, none⟩) (i + 1) cap3)) := Upd.setCell (S := fun k => k = w.heap.size + 2) w3 (a := ⟨w.heap.size + 1 + 1, 0, none⟩) rfl _
    refine ⟨hko.trans (KeepsOthers.setCell _ _ _), (hus.block _ (by omega) (by omega)).trans hk3, ⟨hus.cell d0 (by dsimp only; omega), hus.cell d1 (by dsimp only; omega), ⟨_, World.cell?_setCell_same w3 _ _ d2, (World.frozen?_setCell w3 _ _ _).trans e2, ?_, fun k hk => ?_⟩, hU3.trans hus fun j hj h => by omega, by have := hus.size; omega⟩⟩
    · rw [cutP_succ, hcp, hpb]
      rw [show ((i : Int) == 0) = decide (i = 0) by rw [Bool.eq_iff_iff]; simp] at ho3
      exact hus.owns (own_slots (l' := [⟨e, q + i, decide (i = 0), false, d⟩]) ho3 (by simp [hpl])) fun k hk h => by simp [At, Value.ownBlock] at hk; omega
    · simp [At, Value.ownBlock] at hk; omega
  case done =>
    rintro D W hD ⟨c0, c1, ⟨v, c2, f2, ho, hv⟩, hu0, hsz⟩ hK
    obtain ⟨m, hm⟩ : ∃ m, pieceN s = m + 1 := ⟨pieceN s - 1, by omega⟩
    unfold OwnS at ho
    rw [hm, cutP_length] at ho
    have hm151 : m ≤ 151 := by unfold pieceN at hm; omega
    obtain ⟨g, cap, rfl, hg, hgl, hc⟩ := own_rowform ho (by omega)
    have hgv := hv g (by simp [At, Value.ownBlock])
    have hLS := cutS_last e q s m hm
    rw [cutP_succ] at ho
    have hcl := cutP_length e q s m
    generalize cutP e q s m = L at *
    have hset := own_set ho (m * 5 + 3) (by rw [sc_length, List.length_append, hcl]; simp; omega) (.bool true)
    obtain ⟨-, x1, -, x3, -⟩ := sc_get (L ++ [⟨e, q + m, decide (m = 0), false, pieceB s m⟩]) m (by simp [hcl])
    have y1 := ho.cells (g := g) rfl (m * 5 + 1) _ x1
    have y3 := ho.cells (g := g) rfl (m * 5 + 3) _ x3
    rw [Addr.add_lit, Nat.zero_add] at y1 y3
    have z3 := (own_free ho (m * 5 + 3) (by rw [sc_length, List.length_append, hcl]; simp; omega)).2
    simp only [hcl, List.getElem_append_right (show L.length ≤ m by omega), Nat.sub_self, List.getElem_cons_zero] at y1 y3
    have hset3 : (m * 5 + 3) = L.length * 5 + 3 := by rw [hcl]
    rw [show ((sc (L ++ [⟨e, q + m, decide (m = 0), false, pieceB s m⟩])).set (m * 5 + 3) (.bool true)) = sc (cutS e q s) by rw [hset3, sc_last, hLS]] at hset
    have hlS := cutS_length e q s
    rw [hm] at hlS
    rw [← hlS] at hset
    have hm1 : IntKind.i64.wrap (((m + 1 : Nat) : Int) - 1) = (m : Int) := by rw [show ((m + 1 : Nat) : Int) - 1 = (m : Int) by omega]; exact IntWalk.i64_in _ ⟨by omega, by unfold pieceN at hm; omega⟩
    have hb1 : (0 : Int) ≤ (m : Int) := by omega
    have hb2 : (m : Int) < ((m + 1 : Nat) : Int) := by omega
    clear x1 x3 hset3 hLS
    replace hset := Lib.hid hset
    by_cases hq9 : 1152921504606846976 < q + (m : Int)
    · go_wp2_with fail
      have hK2 : (W.setCell ⟨g, m * 5 + 3, none⟩ (.bool true)).heap[D]? = some (.deferred (some [])) := (KeepsOthers.setCell W _ _).same _ _ hK rfl
      refine ⟨by simp, .inl ⟨_, _, rfl, run_takeDeferred hK2, ?_⟩⟩
      refine ⟨.tuple #[.slice none 0 0, .int .i64 2], by simp [results, Try.results26, go_sem]; try rfl, ?_⟩
      rw [hR.out]
      exact .inr ⟨by omega, rfl, (hu0.then_setCell (p := ⟨g, m * 5 + 3, none⟩) (fun h => by dsimp only at h; omega) _).putObj (by omega) _⟩
    · go_wp2_with fail
      have hK2 : (W.setCell ⟨g, m * 5 + 3, none⟩ (.bool true)).heap[D]? = some (.deferred (some [])) := (KeepsOthers.setCell W _ _).same _ _ hK rfl
      refine ⟨by simp, .inl ⟨_, _, rfl, run_takeDeferred hK2, ?_⟩⟩
      refine ⟨.tuple #[.slice (some ⟨g, 0, none⟩) (m + 1) cap, .int .i64 0], by simp [results, Try.results26, go_sem]; try rfl, ?_⟩
      rw [hR.out]
      refine .inl ⟨by omega, _, rfl, own_put (by rw [← hlS]; exact hset.out) hK2 rfl _, (hu0.then_setCell (p := ⟨g, m * 5 + 3, none⟩) (fun h => by dsimp only at h; omega) _).putObj (by omega) _⟩
theorem cut_long (s : List UInt8) (e q : Int) (w : World) (hs : 16384 < s.length) : Calls Try.prog 26 #[.string ⟨s.toArray⟩, .int .i64 e, .int .i64 q] w
    (fun en w' => en = .returned (.tuple #[.slice none 0 0, .int .i64 5]) ∧ Upd Non w w') := by
  have hs' : (16384 : Int) < (s.length : Int) := by omega
  go_enter Try.func26, Try.ntmps26
  go_wp2_with fail
  refine bodyPost_ret (v := .tuple #[.slice none 0 0, .int .i64 5]) (by simp [results, Try.results26, go_sem]; try rfl) rfl ⟨rfl, ?_⟩
  exact ((Upd.refl Non w).then_alloc _).then_alloc _
theorem cut_args (s : List UInt8) (e q : Int) (w : World) (hs : s.length ≤ 16384) (h : ¬ ((0 ≤ e ∧ e ≤ 2147483647) ∧ 0 ≤ q ∧ q ≤ 1152921504606846976)) : Calls Try.prog 26 #[.string ⟨s.toArray⟩, .int .i64 e, .int .i64 q] w
    (fun en w' => en = .returned (.tuple #[.slice none 0 0, .int .i64 2]) ∧ Upd Non w w') := by
  have hs' : ¬ (16384 : Int) < (s.length : Int) := by omega
  by_cases h1 : e < 0
  · clear h
    go_enter Try.func26, Try.ntmps26
    go_wp2_with fail
    refine bodyPost_ret (v := .tuple #[.slice none 0 0, .int .i64 2]) (by simp [results, Try.results26, go_sem]; try rfl) rfl ⟨rfl, ?_⟩
    exact ((Upd.refl Non w).then_alloc _).then_alloc _
  by_cases h2 : 2147483647 < e
  · clear h
    go_enter Try.func26, Try.ntmps26
    go_wp2_with fail
    refine bodyPost_ret (v := .tuple #[.slice none 0 0, .int .i64 2]) (by simp [results, Try.results26, go_sem]; try rfl) rfl ⟨rfl, ?_⟩
    exact ((Upd.refl Non w).then_alloc _).then_alloc _
  by_cases h3 : q < 0
  · clear h
    go_enter Try.func26, Try.ntmps26
    go_wp2_with fail
    refine bodyPost_ret (v := .tuple #[.slice none 0 0, .int .i64 2]) (by simp [results, Try.results26, go_sem]; try rfl) rfl ⟨rfl, ?_⟩
    exact ((Upd.refl Non w).then_alloc _).then_alloc _
  have h4 : 1152921504606846976 < q := by omega
  clear h
  go_enter Try.func26, Try.ntmps26
  go_wp2_with fail
  refine bodyPost_ret (v := .tuple #[.slice none 0 0, .int .i64 2]) (by simp [results, Try.results26, go_sem]; try rfl) rfl ⟨rfl, ?_⟩
  exact ((Upd.refl Non w).then_alloc _).then_alloc _
/-- Is a record cut? -/
def cutOk (e q : Int) (s : List UInt8) : Prop := s.length ≤ 16384 ∧ (0 ≤ e ∧ e ≤ 2147483647) ∧ 0 ≤ q ∧ q + pieceN s ≤ 1152921504606846977
/-- What Cut tells. -/
def CutTo (s : List UInt8) (e q : Int) (w : World) : Ending → World → Prop := fun en w' =>
  (cutOk e q s ∧ ∃ v, en = .returned (.tuple #[v, .int .i64 0]) ∧ OwnS 56 w w' v (cutS e q s) ∧ Upd Non w w') ∨
  (¬ cutOk e q s ∧ en = .returned (.tuple #[.slice none 0 0, .int .i64 (if 16384 < s.length then 5 else 2)]) ∧ Upd Non w w')
theorem lCut (s : List UInt8) (e q : Int) (w : World) : Calls Try.prog 26 #[.string ⟨s.toArray⟩, .int .i64 e, .int .i64 q] w (CutTo s e q w) := by
  have hN := pieceN_pos s
  by_cases hs : 16384 < s.length
  · refine (cut_long s e q w hs).mono fun en w' h => .inr ⟨fun hk => by have := hk.1; omega, ?_⟩
    rw [if_pos hs]; exact h
  by_cases ha : (0 ≤ e ∧ e ≤ 2147483647) ∧ 0 ≤ q ∧ q ≤ 1152921504606846976
  · refine (cut_run s e q w (by omega) ha.1 ha.2).mono fun en w' h => ?_
    rcases h with ⟨h, v, rfl, h2, h3⟩ | ⟨h, rfl, h2⟩
    · exact .inl ⟨⟨by omega, ha.1, ha.2.1, h⟩, v, rfl, h2, h3⟩
    · refine .inr ⟨fun hk => h hk.2.2.2, ?_, h2⟩
      rw [if_neg hs]
  · refine (cut_args s e q w (by omega) ha).mono fun en w' h => .inr ⟨fun hk => ha ⟨hk.2.1, hk.2.2.1, by have := hk.2.2.2; omega⟩, ?_⟩
    rw [if_neg hs]; exact h
end Go.Proofs.Ytmnoldikimcafaa
