/- Slots as cells; append in a round's frame; slot.pieces; slot.Cut. -/
import Derived.Test.YtiadbijholnbjaaSlB
import Derived.Test.YtiadbijholnbjaaLibB
import Derived.Test.YtiadbijholnbjaaLibC
namespace Go.Amb
open Go.RowKit
set_option linter.unusedVariables false
/-- A cell of an owned row is written. -/
theorem own_set {w : World} {base g n cap : Nat} {e : TypeId} {size : Nat} {xs : List Value} (h : w.ownsRow base e size (.slice (some ⟨g, 0, none⟩) n cap) n xs) (k : Nat) (hk : k < xs.length) (u : Value) :
    (w.setCell ⟨g, k, none⟩ u).ownsRow base e size (.slice (some ⟨g, 0, none⟩) n cap) n (xs.set k u) := by
  refine ⟨by rw [List.length_set]; exact h.1, ?_⟩
  rcases h.2 with ⟨hv, _⟩ | ⟨g', cap', cur, hv, hb, hg, hnc, hcm, hcs, ht⟩
  · cases hv
  · injection hv with h1 h2 h3
    injection h1 with h1
    injection h1 with h1
    subst h1; subst h3
    refine .inr ⟨g, cap, _, rfl, hb, heap_setCell_same _ g k _ _ _ hg, hnc, hcm, by simpa using hcs, ?_⟩
    have hl := h.1
    simp only [Array.toList_setIfInBounds, Array.set!_eq_setIfInBounds]
    rw [← ht] at hk ⊢
    rw [List.length_take] at hk
    rw [List.take_set]
theorem own_free {w : World} {base g n cap : Nat} {e : TypeId} {size : Nat} {xs : List Value} (h : w.ownsRow base e size (.slice (some ⟨g, 0, none⟩) n cap) n xs) (k : Nat) (hk : k < xs.length) :
    w.cell? ⟨g, k, none⟩ = some (xs[k]) ∧ w.frozen? ⟨g, k, none⟩ = false := by
  refine ⟨?_, ?_⟩
  · have := h.cells (g := g) rfl k _ (List.getElem?_eq_getElem hk)
    rwa [Addr.add_lit, Nat.zero_add] at this
  · rcases h.2 with ⟨hv, _⟩ | ⟨g', cap', cur, hv, hb, hg, _⟩
    · cases hv
    · injection hv with h1 h2 h3
      injection h1 with h1
      injection h1 with h1
      subst h1
      unfold World.frozen?; simp [hg]
theorem wpListIn_app1 {F : Fence} {m : Nat} {P : Program} {w : World} {ops : Array Oper} {rest : List Oper} {o : Oper} {a : Act} {Q : Exit → Act → World → Prop} (hgd : o.guard = none) (s x : Operand) (t : TypeId)
    (ho : o.op = .call { callee := .builtin .append, args := #[s, x], argTypes := #[t, t] })
    (base : Nat) (e : TypeId) (z : Value) (size bytes : Nat) (ht : P.underlying t = some (.slice e)) (hinfo : (P.info? e).map (fun i => (i.zero, i.size, i.bytes)) = some (some z, size, bytes))
    (hzs : z.cells.size = size)
    (v : Value) (n : Nat) (xs : List Value) (hs : a.eval s = v) (hown : w.ownsRow base e size v n xs) (cs : List Value) (N : Nat)
    (hx : a.eval x = .slice (some ⟨N, 0, none⟩) 1 1) (hN : N = w.heap.size) (hl : cs.length = size) (h1 : ∀ u ∈ cs, u.oneCell' = true)
    (h63 : n + 1 ≤ maxLen) (hbytes : (n + 1) * bytes ≤ 140737488355328) (hbase : base ≤ w.heap.size)
    (h : ∀ v' w', w'.ownsRow base e size v' (n + 1) (xs ++ cs) → Upd (At v) w w' → (∀ k, At v' k → At v k ∨ w.heap.size ≤ k) → wpListIn F m P ops Q rest (a.put o.dst v') w') : wpListIn F m P ops Q (o :: rest) a (w.alloc (.cells cs.toArray e)) := by
  subst hN
  obtain ⟨i, hi, hz, hsize, hby⟩ := info_parts hinfo
  refine wpListIn_plain hgd fun K hK => ?_
  have hsrc : Src P size t (.slice (some ⟨w.heap.size, 0, none⟩) 1 1) 1 cs (w.alloc (.cells cs.toArray e)) := Src.ofHas ht (has_new w cs e size 1 (by omega) (by unfold maxLen; omega)) h1
  obtain ⟨v', w', hr, h2, h3, h4, _⟩ := run_app (P := P) (w.alloc (.cells cs.toArray e)) base t t o.type e i z size bytes ht hi hz hsize hby hzs v n xs (hown.alloc _) _ 1 cs hsrc h63 hbytes (by simp; omega)
  unfold Oper.wpIn
  refine ⟨by simp [Oper.about, ho, resolve, Target.leads, Sem.run_pure], ?_⟩
  rw [Oper.semAt_plain F _ _ (by rw [ho]; intro c hc'; cases hc')]
  simp [execOp, ho, resolve, invoke, builtin, hs, hx, hr, Result.andThen]
  exact hK _ _ (h v' w' h2 ((Upd.alloc (At v) w _).trans h3 fun _ _ h => h) fun k hk => (h4 k hk).imp id fun h => by simp at h; omega)
theorem Upd.others {S : Nat → Prop} {w w' : World} (hu : Upd S w w') (hS : ∀ k o, S k → w.heap[k]? = some o → o.isCells = true) : KeepsOthers w w' :=
  ⟨hu.size, fun k o hk ho => hu.heap hk fun hs => by rw [hS k o hs hk] at ho; cases ho⟩
theorem own_cells {w : World} {base : Nat} {e : TypeId} {size : Nat} {v : Value} {n : Nat} {xs : List Value} (h : w.ownsRow base e size v n xs) : ∀ k o, At v k → w.heap[k]? = some o → o.isCells = true := by
  intro k o hk ho
  rcases h.2 with ⟨rfl, _⟩ | ⟨g, cap, cur, rfl, _, hg, _⟩
  · simp [At, Value.ownBlock] at hk
  · have : g = k := by simpa [At, Value.ownBlock] using hk
    subst this; rw [hg] at ho; cases ho; rfl
theorem own_rowform {w : World} {base : Nat} {e : TypeId} {size : Nat} {v : Value} {m : Nat} {xs : List Value} (h : w.ownsRow base e size v m xs) (hm : 0 < m) : ∃ g cap, v = .slice (some ⟨g, 0, none⟩) m cap ∧ base ≤ g ∧ g < w.heap.size ∧ m ≤ cap := by
  rcases h.2 with ⟨rfl, h1⟩ | ⟨g, cap, cur, rfl, hb, hg, hnc, _⟩
  · omega
  · exact ⟨g, cap, rfl, hb, heap_lt hg, hnc⟩
/-- A slot. -/
structure S5 where
  e : Int
  q : Int
  f : Bool
  l : Bool
  d : List UInt8
deriving DecidableEq
abbrev S5.c (x : S5) : List Value := [.int .i64 x.e, .int .i64 x.q, .bool x.f, .bool x.l, .string ⟨x.d.toArray⟩]
/-- Slots as cells. -/
def sc (l : List S5) : List Value := l.flatMap S5.c
theorem sc_append (a b : List S5) : sc (a ++ b) = sc a ++ sc b := by simp [sc]
theorem sc_length (l : List S5) : (sc l).length = l.length * 5 := by
  induction l with
  | nil => rfl
  | cons p l ih =>
    show (p.c ++ sc l).length = _
    rw [List.length_append, ih]; simp; omega
theorem sc_get (l : List S5) : ∀ (k : Nat) (h : k < l.length), (sc l)[k * 5]? = some (.int .i64 l[k].e) ∧ (sc l)[k * 5 + 1]? = some (.int .i64 l[k].q) ∧ (sc l)[k * 5 + 2]? = some (.bool l[k].f) ∧ (sc l)[k * 5 + 3]? = some (.bool l[k].l) ∧ (sc l)[k * 5 + 4]? = some (.string ⟨l[k].d.toArray⟩) := by
  induction l with
  | nil => intro k h; cases h
  | cons p l ih =>
    intro k h
    cases k with
    | zero => exact ⟨rfl, rfl, rfl, rfl, rfl⟩
    | succ k =>
      have := ih k (by simpa using h)
      rw [show (k + 1) * 5 = k * 5 + 5 by omega, show k * 5 + 5 + 1 = k * 5 + 1 + 5 by omega, show k * 5 + 5 + 2 = k * 5 + 2 + 5 by omega, show k * 5 + 5 + 3 = k * 5 + 3 + 5 by omega, show k * 5 + 5 + 4 = k * 5 + 4 + 5 by omega]
      exact this
theorem sc_one (l : List S5) : ∀ u ∈ sc l, u.oneCell' = true := by
  intro u hu
  obtain ⟨p, _, hp⟩ := List.mem_flatMap.1 hu
  simp only [S5.c, List.mem_cons, List.not_mem_nil, or_false] at hp
  rcases hp with rfl | rfl | rfl | rfl | rfl <;> rfl
/-- The last slot's Last is set. -/
theorem sc_last (l : List S5) (x : S5) (b : Bool) : (sc (l ++ [x])).set (l.length * 5 + 3) (.bool b) = sc (l ++ [{ x with l := b }]) := by
  rw [sc_append, sc_append, List.set_append_right _ _ (by rw [sc_length]; omega), sc_length, show l.length * 5 + 3 - l.length * 5 = 3 by omega]
  rfl
/-- A slice of slots; one of the call's own. -/
abbrev SlotsAt (w : World) (v : Value) (l : List S5) : Prop := Has w 5 v l.length (sc l)
abbrev OwnS (T : TypeId) (w0 w : World) (v : Value) (l : List S5) : Prop := w.ownsRow w0.heap.size T 5 v l.length (sc l)
theorem own_slots {w : World} {base : Nat} {T : TypeId} {v : Value} {l l' : List S5} {N : Nat} (h : w.ownsRow base T 5 v N (sc l ++ sc l')) (hN : N = l.length + l'.length) : w.ownsRow base T 5 v (l ++ l').length (sc (l ++ l')) := by
  rw [sc_append, List.length_append, ← hN]; exact h
/-- The slots of a record: ahead of the end, the Last not set yet; as they are told. -/
def cutP (e q : Int) (s : List UInt8) (k : Nat) : List S5 := (List.range k).map fun (i : Nat) => ⟨e, q + i, decide (i = 0), false, pieceB s i⟩
def cutS (e q : Int) (s : List UInt8) : List S5 := (List.range (pieceN s)).map fun (i : Nat) => ⟨e, q + i, decide (i = 0), decide (i + 1 = pieceN s), pieceB s i⟩
theorem cutP_succ (e q : Int) (s : List UInt8) (k : Nat) : cutP e q s (k + 1) = cutP e q s k ++ [⟨e, q + k, decide (k = 0), false, pieceB s k⟩] := by simp [cutP, List.range_succ]
theorem cutP_length (e q : Int) (s : List UInt8) (k : Nat) : (cutP e q s k).length = k := by simp [cutP]
theorem pieceN_pos (s : List UInt8) : 1 ≤ pieceN s := by unfold pieceN; omega
theorem cutS_last (e q : Int) (s : List UInt8) (m : Nat) (hm : pieceN s = m + 1) : cutS e q s = cutP e q s m ++ [⟨e, q + m, decide (m = 0), true, pieceB s m⟩] := by
  unfold cutS cutP
  rw [hm, List.range_succ, List.map_append]
  congr 1
  · refine List.map_congr_left fun i hi => ?_
    have := List.mem_range.1 hi
    simp; omega
  · simp
theorem cutS_length (e q : Int) (s : List UInt8) : (cutS e q s).length = pieceN s := by simp [cutS]
end Go.Amb
