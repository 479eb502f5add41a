/- More of the seat's own laws: append at a step of a region that draws its order. -/
import Derived.Test.YtfjcjppfihafgaaMLib
import Derived.Deep.RegionLaw
namespace Go.Amb
open Go.RowKit

theorem step_app {P : Program} {w : World} {ops : Array Oper} {o : Oper} {a : Act} {K : Act → World → Prop} {Q : Exit → Act → World → Prop} {E : Prop} (hgd : o.guard = none) (s x : Operand) (t tx : TypeId)
    (ho : o.op = .call { callee := .builtin .append, args := #[s, x], argTypes := #[t, tx] })
    (base : Nat) (e : TypeId) (z : Value) (size bytes : Nat) (ht : P.underlying t = some (.slice e)) (hinfo : (P.info? e).map (fun i => (i.zero, i.size, i.bytes)) = some (some z, size, bytes))
    (hzs : z.cells.size = size)
    (v : Value) (n : Nat) (xs : List Value) (hs : a.eval s = v) (hown : w.ownsRow base e size v n xs)
    (xv : Value) (m : Nat) (news : List Value) (hx : a.eval x = xv) (hsrc : Src P size tx xv m news w)
    (h63 : n + m ≤ maxLen) (hbytes : (n + m) * bytes ≤ 140737488355328) (hbase : base ≤ w.heap.size)
    (h : ∀ v' w', w'.ownsRow base e size v' (n + m) (xs ++ news) → Upd (At v) w w' → (∀ k, At v' k → At v k ∨ w.heap.size ≤ k) → K (a.put o.dst v') w') :
    if Region.wanted o (yielded ops a.tmps) = true then Oper.wp P o a w K Q else E := by
  have hw : Region.wanted o (yielded ops a.tmps) = true := by simp [Region.wanted, hgd]
  rw [if_pos hw]
  obtain ⟨i, hi, hz, hsize, hby⟩ := info_parts hinfo
  obtain ⟨v', w', hr, h2, h3, h4, _⟩ := run_app (P := P) w base t tx o.type e i z size bytes ht hi hz hsize hby hzs v n xs hown xv m news hsrc h63 hbytes hbase
  unfold Oper.wp execOp
  simp only [ho, resolve, invoke, builtin, Sem.run_bind, Sem.run_pure, Result.andThen_ok, List.map_toArray, List.map_cons, List.map_nil, hs, hx, hr]
  exact h v' w' h2 h3 h4

/-- 'append(s, x)', x in a new block of one element, at a step of a region that draws its order. -/
theorem step_app1 {P : Program} {w : World} {ops : Array Oper} {o : Oper} {a : Act} {K : Act → World → Prop} {Q : Exit → Act → World → Prop} {E : Prop} (hgd : o.guard = none) (s x : Operand) (t : TypeId)
    (ho : o.op = .call { callee := .builtin .append, args := #[s, x], argTypes := #[t, t] })
    (base : Nat) (e : TypeId) (z : Value) (size bytes : Nat) (ht : P.underlying t = some (.slice e)) (hinfo : (P.info? e).map (fun i => (i.zero, i.size, i.bytes)) = some (some z, size, bytes))
    (hzs : z.cells.size = size) (v : Value) (n : Nat) (xs : List Value) (hs : a.eval s = v) (hown : w.ownsRow base e size v n xs) (cs : List Value) (N : Nat)
    (hx : a.eval x = .slice (some ⟨N, 0, none⟩) 1 1) (hN : N = w.heap.size) (hl : cs.length = size) (h1 : ∀ u ∈ cs, u.oneCell' = true)
    (h63 : n + 1 ≤ maxLen) (hbytes : (n + 1) * bytes ≤ 140737488355328) (hbase : base ≤ w.heap.size)
    (h : ∀ v' w', w'.ownsRow base e size v' (n + 1) (xs ++ cs) → Upd (At v) w w' → (∀ k, At v' k → At v k ∨ w.heap.size ≤ k) → K (a.put o.dst v') w') :
    if Region.wanted o (yielded ops a.tmps) = true then Oper.wp P o a (w.alloc (.cells cs.toArray e)).drew K Q else E := by
  subst hN
  exact step_app hgd s x t t ho base e z size bytes ht hinfo hzs v n xs hs ((hown.alloc _).drew) _ 1 cs hx (Src.ofHas ht ((has_new w cs e size 1 (by omega) (by unfold maxLen; omega)).upd (Upd.drew Non _) fun _ _ h => h) h1) h63 hbytes (by simp; omega)
    fun v' w' h2 h3 h4 => h v' w' h2 (((Upd.alloc (At v) w _).then_drew).trans h3 fun _ _ h => h) fun k hk => (h4 k hk).imp id fun h => by simp at h; omega

/-- As wpList_app1, the new block's number under a name of its own. -/
theorem wpList_app1n {P : Program} {w : World} {ops : Array Oper} {rest : List Oper} {o : Oper} {a : Act} {Q : Exit → Act → World → Prop} (hgd : o.guard = none) (s x : Operand) (t : TypeId)
    (ho : o.op = .call { callee := .builtin .append, args := #[s, x], argTypes := #[t, t] })
    (base : Nat) (e : TypeId) (z : Value) (size bytes : Nat) (ht : P.underlying t = some (.slice e)) (hinfo : (P.info? e).map (fun i => (i.zero, i.size, i.bytes)) = some (some z, size, bytes))
    (hzs : z.cells.size = size)
    (v : Value) (n : Nat) (xs : List Value) (hs : a.eval s = v) (hown : w.ownsRow base e size v n xs) (cs : List Value) (N : Nat)
    (hx : a.eval x = .slice (some ⟨N, 0, none⟩) 1 1) (hN : N = w.heap.size) (hl : cs.length = size) (h1 : ∀ u ∈ cs, u.oneCell' = true)
    (h63 : n + 1 ≤ maxLen) (hbytes : (n + 1) * bytes ≤ 140737488355328) (hbase : base ≤ w.heap.size)
    (h : ∀ v' w', w'.ownsRow base e size v' (n + 1) (xs ++ cs) → Upd (At v) w w' → (∀ k, At v' k → At v k ∨ w.heap.size ≤ k) → wpList P ops Q rest (a.put o.dst v') w') : wpList P ops Q (o :: rest) a (w.alloc (.cells cs.toArray e)) := by
  subst hN
  exact wpList_app1 hgd s x t ho base e z size bytes ht hinfo hzs v n xs hs hown cs hx hl h1 h63 hbytes hbase h
/-- 'append(s, x1, x2, ..)': they lie in a new block of m elements. -/
theorem wpList_appm {P : Program} {w : World} {ops : Array Oper} {rest : List Oper} {o : Oper} {a : Act} {Q : Exit → Act → World → Prop} (hgd : o.guard = none) (s x : Operand) (t : TypeId)
    (ho : o.op = .call { callee := .builtin .append, args := #[s, x], argTypes := #[t, t] })
    (base : Nat) (e : TypeId) (z : Value) (size bytes : Nat) (ht : P.underlying t = some (.slice e)) (hinfo : (P.info? e).map (fun i => (i.zero, i.size, i.bytes)) = some (some z, size, bytes))
    (hzs : z.cells.size = size)
    (v : Value) (n : Nat) (xs : List Value) (hs : a.eval s = v) (hown : w.ownsRow base e size v n xs) (cs : List Value) (m N : Nat)
    (hx : a.eval x = .slice (some ⟨N, 0, none⟩) m m) (hN : N = w.heap.size) (hl : cs.length = m * size) (h1 : ∀ u ∈ cs, u.oneCell' = true)
    (h63 : n + m ≤ maxLen) (hbytes : (n + m) * bytes ≤ 140737488355328) (hbase : base ≤ w.heap.size)
    (h : ∀ v' w', w'.ownsRow base e size v' (n + m) (xs ++ cs) → Upd (At v) w w' → (∀ k, At v' k → At v k ∨ w.heap.size ≤ k) → wpList P ops Q rest (a.put o.dst v') w') : wpList P ops Q (o :: rest) a (w.alloc (.cells cs.toArray e)) := by
  subst hN
  exact wpList_app hgd s x t t ho base e z size bytes ht hinfo hzs v n xs hs (hown.alloc _) _ m cs hx (Src.ofHas ht (has_new w cs e size m hl (by omega)) h1) h63 hbytes (by simp; omega)
    fun v' w' h2 h3 h4 => h v' w' h2 ((Upd.alloc (At v) w _).trans h3 fun _ _ h => h) fun k hk => (h4 k hk).imp id fun h => by simp at h; omega
theorem own_one {w : World} {base : Nat} {e : TypeId} {v : Value} {l : List UInt8} {N : Nat} (b : UInt8) (h : w.ownsRow base e 1 v N (bc l ++ [.int .u8 b.toNat])) : Own w base e v (l ++ [b]) := own_snoc h rfl
theorem one_cell (k : IntKind) (x : Int) : ∀ u ∈ [Value.int k x], u.oneCell' = true := by intro u hu; rw [List.mem_singleton] at hu; subst hu; rfl

/-- A slice of the call's own that grew: from v in w to v' in w'. -/
structure Grow (v : Value) (w : World) (v' : Value) (w' : World) : Prop where
  upd : Upd (At v) w w'
  own : ∀ k, At v' k → At v k ∨ w.heap.size ≤ k
theorem Grow.refl (v : Value) (w : World) : Grow v w v w := ⟨Upd.refl _ _, fun _ h => .inl h⟩
theorem Grow.trans {v1 v2 v3 : Value} {w1 w2 w3 : World} (h : Grow v1 w1 v2 w2) (k : Grow v2 w2 v3 w3) : Grow v1 w1 v3 w3 :=
  ⟨h.upd.trans k.upd fun j hj h' => (h.own j h').elim id fun h' => absurd hj (by omega), fun j hj => (k.own j hj).elim (h.own j) fun h' => .inr (Nat.le_trans h.upd.size h')⟩
theorem Grow.left {v v' : Value} {w1 w2 w3 : World} (h : Upd Non w1 w2) (k : Grow v w2 v' w3) : Grow v w1 v' w3 :=
  ⟨(Upd.non h : Upd (At v) w1 w2).trans k.upd fun _ _ h => h, fun j hj => (k.own j hj).elim .inl fun h' => .inr (Nat.le_trans h.size h')⟩
theorem Grow.right {v v' : Value} {w1 w2 w3 : World} (h : Grow v w1 v' w2) (k : Upd Non w2 w3) : Grow v w1 v' w3 :=
  ⟨h.upd.trans k fun _ _ h => h.elim, h.own⟩
theorem Grow.base {v v' : Value} {w w' : World} {B : Nat} (h : Grow v w v' w') (hB : ∀ k, At v k → B ≤ k) (hw : B ≤ w.heap.size) : ∀ k, At v' k → B ≤ k :=
  fun k hk => (h.own k hk).elim (hB k) fun h => Nat.le_trans hw h
theorem Grow.grew {base : Nat} {E : TypeId} {v v' : Value} {l : List UInt8} {w w' : World} (h : Grow v w v' w') (ho : Own w' base E v' l) : Grew base E v l w (.returned v') w' := ⟨v', rfl, ho, h.upd, h.own⟩
end Go.Amb
