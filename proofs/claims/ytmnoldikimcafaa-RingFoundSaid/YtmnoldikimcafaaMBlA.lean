/- Rows of rows in memory: sectors, writes. No program stands here. -/
import Derived.Test.YtmnoldikimcafaaMLib
import Derived.Deep.MidRow
import Derived.TacticsIn
import Derived.Test.YtmnoldikimcafaaRows
namespace Go.Amb
open Go.RowKit
set_option linter.unusedVariables false
theorem fl_length {α : Type} {m : Nat} {L : List (List α)} (h : ∀ s ∈ L, s.length = m) : L.flatten.length = L.length * m := by
  induction L with
  | nil => simp
  | cons x L ih =>
    rw [List.flatten_cons, List.length_append, ih fun s hs => h s (List.mem_cons_of_mem _ hs), h x (List.mem_cons_self ..), List.length_cons, Nat.succ_mul, Nat.add_comm]
theorem fl_split {α : Type} {m : Nat} {L : List (List α)} (h : ∀ s ∈ L, s.length = m) (i : Nat) (hi : i < L.length) :
    L.flatten = (L.take i).flatten ++ L[i] ++ (L.drop (i + 1)).flatten ∧ (L.take i).flatten.length = i * m := by
  constructor
  · conv => lhs; rw [← List.take_append_drop i L, List.flatten_append, List.drop_eq_getElem_cons hi, List.flatten_cons, ← List.append_assoc]
  · rw [fl_length (m := m) fun s hs => h s (List.mem_of_mem_take hs), List.length_take, Nat.min_eq_left (by omega)]
theorem fl_get {α : Type} {m : Nat} {L : List (List α)} (h : ∀ s ∈ L, s.length = m) (i j : Nat) (hi : i < L.length) (hj : j < m) : L.flatten[i * m + j]? = L[i][j]? := by
  obtain ⟨h1, h2⟩ := fl_split h i hi
  have h3 := h L[i] (List.getElem_mem hi)
  rw [h1, List.append_assoc, List.getElem?_append_right (by omega), h2, List.getElem?_append_left (by omega)]
  congr 1; omega
theorem fl_set {α : Type} {m : Nat} {L : List (List α)} (h : ∀ s ∈ L, s.length = m) (i : Nat) (hi : i < L.length) (s : List α) :
    (L.set i s).flatten = L.flatten.take (i * m) ++ s ++ L.flatten.drop (i * m + m) := by
  obtain ⟨h1, h2⟩ := fl_split h i hi
  have h3 := h L[i] (List.getElem_mem hi)
  have e : (L.set i s).flatten = (L.take i).flatten ++ s ++ (L.drop (i + 1)).flatten := by
    rw [List.set_eq_take_append_cons_drop, if_pos hi, List.flatten_append, List.flatten_cons, ← List.append_assoc]
  rw [e, h1]
  clear e h1
  generalize (L.take i).flatten = A at *
  generalize L[i] = B at *
  generalize (L.drop (i + 1)).flatten = C at *
  have t1 : (A ++ B ++ C).take (i * m) = A := by rw [List.append_assoc, ← h2, List.take_left]
  have t2 : (A ++ B ++ C).drop (i * m + m) = C := by rw [show i * m + m = (A ++ B).length by rw [List.length_append]; omega, List.drop_left]
  rw [t1, t2]
theorem heap_setCells (g : Nat) (t : TypeId) : ∀ (vs : List Value) (o : Nat) (w : World) (cur : Array Value), w.heap[g]? = some (.cells cur t (0, 0)) → o + vs.length ≤ cur.size →
    (w.setCells g o vs).heap[g]? = some (.cells (cur.toList.take o ++ vs ++ cur.toList.drop (o + vs.length)).toArray t (0, 0))
  | [], o, w, cur, h, hl => by
    rw [World.setCells, h]
    simp
  | v :: r, o, w, cur, h, hl => by
    rw [List.length_cons] at hl
    rw [World.setCells, heap_setCells g t r (o + 1) _ (cur.setIfInBounds o v) (heap_setCell_same w g o cur t v h) (by rw [Array.size_setIfInBounds]; omega)]
    have hlen : o < cur.toList.length := by simp; omega
    congr 3
    rw [Array.toList_setIfInBounds, List.length_cons, List.drop_set_of_lt (by omega), List.set_eq_take_append_cons_drop, if_pos hlen,
      List.take_append, List.length_take, Nat.min_eq_left (by omega), List.take_of_length_le (by rw [List.length_take]; omega), show o + 1 - o = 1 by omega, List.take_succ_cons, List.take_zero,
      show o + 1 + r.length = o + (r.length + 1) by omega]
    simp
theorem upd_setCells (g : Nat) : ∀ (vs : List Value) (o : Nat) (w : World), Upd (fun k => k = g) w (w.setCells g o vs)
  | [], o, w => by rw [World.setCells]; exact Upd.refl _ _
  | v :: r, o, w => by
    rw [World.setCells]
    exact (Upd.setCell (S := fun k => k = g) w (a := ⟨g, o, none⟩) rfl v).trans (upd_setCells g r (o + 1) _) fun _ _ h => h
section
variable {w : World} {base : Nat} {e : TypeId} {m : Nat} {v : Value} {n : Nat} {L : List (List Value)}
/-- An owned row's row i lies there. -/
theorem own_range (h : w.ownsRow base e m v n L.flatten) (hL : ∀ s ∈ L, s.length = m) (hn : L.length = n) (i : Nat) (hi : i < n) : ∃ g c, v = .slice (some ⟨g, 0, none⟩) n c ∧ At v g ∧ n ≤ c ∧ c ≤ maxLen ∧ w.rangeAt g (i * m) (L[i]'(by omega)) ∧ w.there g (i * m) m := by
  rcases h.2 with ⟨rfl, rfl⟩ | ⟨g, cap, cur, rfl, hb, hg, hnc, hcm, hcs, htake⟩
  · omega
  · have hsz : i * m + m ≤ n * m := by rw [← Nat.succ_mul]; exact Nat.mul_le_mul_right _ hi
    have hcap : n * m ≤ cap * m := Nat.mul_le_mul_right _ hnc
    have hc := cells_of hg
    refine ⟨g, cap, rfl, rfl, hnc, hcm, ?_, ?_⟩
    · intro j u hu
      have hjm : j < m := by rw [← hL _ (List.getElem_mem (by omega : i < L.length))]; exact (List.getElem?_eq_some_iff.1 hu).1
      rw [hc.1, ← Array.getElem?_toList]
      have h2 := fl_get hL i j (by omega) hjm
      rw [← htake, List.getElem?_take, if_pos (by omega)] at h2
      rw [h2]; exact hu
    · intro j hj
      refine ⟨?_, hc.2 _⟩
      rw [hc.1, Array.getElem?_eq_getElem (by omega)]; rfl
/-- One row of an owned row is stored. -/
theorem own_setRow (h : w.ownsRow base e m v n L.flatten) (hL : ∀ s ∈ L, s.length = m) (hn : L.length = n) (i : Nat) (hi : i < n) (s : List Value) (hs : s.length = m) {g : Nat} (hg : At v g) :
    (w.setCells g (i * m) s).ownsRow base e m v n (L.set i s).flatten := by
  rcases h.2 with ⟨rfl, rfl⟩ | ⟨g', cap, cur, rfl, hb, hgg, hnc, hcm, hcs, htake⟩
  · omega
  · obtain rfl : g' = g := by simpa [At, Value.ownBlock] using hg
    have hsz : i * m + m ≤ n * m := by rw [← Nat.succ_mul]; exact Nat.mul_le_mul_right _ hi
    have hcap : n * m ≤ cap * m := Nat.mul_le_mul_right _ hnc
    have hfl := fl_length hL
    have hne := heap_setCells g' e s (i * m) w cur hgg (by omega)
    have hls : (L.set i s).flatten.length = n * m := by
      rw [fl_length (m := m), List.length_set, hn]
      intro x hx
      rcases List.mem_or_eq_of_mem_set hx with h | rfl
      · exact hL x h
      · exact hs
    refine ⟨hls, .inr ⟨g', cap, _, rfl, hb, hne, hnc, hcm, ?_, ?_⟩⟩
    · simp; omega
    · have hX : cur.toList = L.flatten ++ cur.toList.drop (n * m) := by rw [← htake, List.take_append_drop]
      rw [fl_set hL i (by omega) s]
      generalize cur.toList.drop (n * m) = R at hX
      have h1 : L.flatten.length = n * m := by rw [hfl, hn]
      rw [hX, hs, List.toList_toArray]
      have t1 : (L.flatten ++ R).take (i * m) = L.flatten.take (i * m) := List.take_append_of_le_length (by omega)
      have t2 : (L.flatten ++ R).drop (i * m + m) = L.flatten.drop (i * m + m) ++ R := List.drop_append_of_le_length (by omega)
      rw [t1, t2, ← List.append_assoc, List.take_append_of_le_length (by rw [← fl_set hL i (by omega) s]; omega), List.take_of_length_le (by rw [← fl_set hL i (by omega) s]; omega)]
end
end Go.Amb
namespace Go.Amb
open Go.RowKit
/-! ### The load and the store of many cells, as the walk meets them in a plain list; in a round or not -/
theorem wpIn_load_mid {F : Fence} {n : Nat} {P : Program} {op : Oper} {a : Act} {w : World} {K : Act → World → Prop} {Q : Exit → Act → World → Prop} (ty : TypeId) (x : Operand) (ho : op.op = .load ty x)
    (b o : Nat) (hx : a.eval x = .pointer (some ⟨b, o, none⟩)) (cs : List Value) (d : TypeDesc) (hc : w.rangeAt b o cs)
    (hu : P.underlying ty = some d) (hd : d.isRow = true) (hi : (P.info? ty).map (·.size) = some cs.length)
    (h : K (a.put op.dst (.agg cs.toArray)) w) : op.wpIn F n P a w K Q := by
  unfold Oper.wpIn
  refine ⟨by simp [Oper.about, ho], ?_⟩
  rw [Oper.semAt_eq _ _ _ (by rw [ho]; intro c hc'; cases hc')]
  unfold execOp
  simp only [ho, hx, Instr.loadAt, Instr.sureAddr, Sem.run_bind, Sem.run_pure, Result.andThen_ok, run_loadVar_mid w b o ty cs d hc hu hd hi]
  exact h
theorem wpListIn_load_mid {F : Fence} {n : Nat} {P : Program} {ops : Array Oper} {rest : List Oper} {op : Oper} {a : Act} {w : World} {Q : Exit → Act → World → Prop} (hgd : op.guard = none) (ty : TypeId) (x : Operand) (ho : op.op = .load ty x)
    (b o : Nat) (hx : a.eval x = .pointer (some ⟨b, o, none⟩)) (cs : List Value) (d : TypeDesc) (hc : w.rangeAt b o cs)
    (hu : P.underlying ty = some d) (hd : d.isRow = true) (hi : (P.info? ty).map (·.size) = some cs.length)
    (h : wpListIn F n P ops Q rest (a.put op.dst (.agg cs.toArray)) w) : wpListIn F n P ops Q (op :: rest) a w :=
  wpListIn_plain hgd fun _ hK => wpIn_load_mid ty x ho b o hx cs d hc hu hd hi (hK _ _ h)
theorem wpIn_store_mid {F : Fence} {n : Nat} {P : Program} {op : Oper} {a : Act} {w : World} {K : Act → World → Prop} {Q : Exit → Act → World → Prop} (ty : TypeId) (x y : Operand) (ho : op.op = .store ty x y)
    (b o : Nat) (cells : Array Value) (hx : a.eval x = .pointer (some ⟨b, o, none⟩)) (hy : a.eval y = .agg cells)
    (ht : w.there b o cells.size) (hi : (P.info? ty).map (·.size) = some cells.size) (h1 : cells.all (·.oneCell') = true)
    (h : K (a.put op.dst undef) (w.setCells b o cells.toList)) : op.wpIn F n P a w K Q := by
  unfold Oper.wpIn
  refine ⟨by simp [Oper.about, ho], ?_⟩
  rw [Oper.semAt_eq _ _ _ (by rw [ho]; intro c hc'; cases hc')]
  unfold execOp
  simp only [ho, hx, hy, Instr.storeAt, Instr.sureAddr, Sem.run_bind, Sem.run_pure, Result.andThen_ok, run_storeVar_mid w b o ty cells ht hi h1]
  exact h
theorem wpListIn_store_mid {F : Fence} {n : Nat} {P : Program} {ops : Array Oper} {rest : List Oper} {op : Oper} {a : Act} {w : World} {Q : Exit → Act → World → Prop} (hgd : op.guard = none) (ty : TypeId) (x y : Operand) (ho : op.op = .store ty x y)
    (b o : Nat) (cells : Array Value) (hx : a.eval x = .pointer (some ⟨b, o, none⟩)) (hy : a.eval y = .agg cells)
    (ht : w.there b o cells.size) (hi : (P.info? ty).map (·.size) = some cells.size) (h1 : cells.all (·.oneCell') = true)
    (h : wpListIn F n P ops Q rest (a.put op.dst undef) (w.setCells b o cells.toList)) : wpListIn F n P ops Q (op :: rest) a w :=
  wpListIn_plain hgd fun _ hK => wpIn_store_mid ty x y ho b o cells hx hy ht hi h1 (hK _ _ h)
end Go.Amb

namespace Go.Amb
open Go.RowKit
set_option linter.unusedVariables false
/-- What a disk has: its sectors, what is pending, the fuse, whether it is dead. -/
structure Dk where
  K : List (List UInt8)
  P : List (List UInt8 × Nat)
  f : Int
  dd : Bool
def pc (p : List UInt8 × Nat) : List Value := bc p.1 ++ [.int .i64 (p.2 : Int)]
structure Dk.Ok (d : Dk) : Prop where
  n1 : 1 ≤ d.K.length
  n2 : d.K.length ≤ 16384
  k : ∀ s ∈ d.K, s.length = 128
  p : ∀ p ∈ d.P, p.1.length = 128 ∧ p.2 < d.K.length
  f1 : -1 ≤ d.f
  f2 : d.f < 9223372036854775808
theorem Dk.Ok.kl {d : Dk} (h : d.Ok) : ∀ s ∈ d.K.map bc, s.length = 128 := by
  intro s hs
  obtain ⟨x, hx, rfl⟩ := List.mem_map.1 hs
  rw [bc_length]; exact h.k x hx
theorem Dk.Ok.pl {d : Dk} (h : d.Ok) : ∀ s ∈ d.P.map pc, s.length = 129 := by
  intro s hs
  obtain ⟨x, hx, rfl⟩ := List.mem_map.1 hs
  simp [pc, bc_length, (h.p x hx).1]
def Dk.may (d : Dk) : Int := if d.dd then 20 else 0
def Dk.within (d : Dk) (i : Int) : Int := if d.dd then 20 else if i < 0 ∨ (d.K.length : Int) ≤ i then 6 else 0
def Dk.burn (d : Dk) : Dk × Int := if d.f = 0 then ({ d with dd := true }, 20) else if 0 < d.f then ({ d with f := d.f - 1 }, 0) else (d, 0)
def lastAt (P : List (List UInt8 × Nat)) (i : Nat) : Option (List UInt8) := (P.reverse.find? fun p => decide (p.2 = i)).map (·.1)
def Dk.has (d : Dk) (i : Nat) : List UInt8 := (lastAt d.P i).getD (d.K.getD i [])
def full (s : List UInt8) : List UInt8 := s ++ List.replicate (128 - s.length) 0
def Dk.write (d : Dk) (i : Int) (s : List UInt8) : Dk × Int :=
  if d.within i ≠ 0 then (d, d.within i) else if 128 < s.length then (d, 5) else
  if d.burn.2 ≠ 0 then d.burn else ({ d.burn.1 with P := d.burn.1.P ++ [(full s, i.toNat)] }, 0)
/-- The sectors behind the first k pending writes, those kept that are picked. -/
def keepK (K : List (List UInt8)) (P : List (List UInt8 × Nat)) (pick : Nat → Bool) : Nat → List (List UInt8)
  | 0 => K
  | k + 1 => match P[k]? with
    | some p => if pick k then (keepK K P pick k).set p.2 p.1 else keepK K P pick k
    | none => keepK K P pick k
def Dk.keep (d : Dk) (pick : Nat → Bool) : Dk := { d with K := keepK d.K d.P pick d.P.length, P := [] }
def Dk.flush (d : Dk) : Dk × Int := if d.dd then (d, 20) else if d.burn.2 ≠ 0 then d.burn else (d.burn.1.keep fun _ => true, 0)
def Dk.arm (d : Dk) (n : Int) : Dk × Int := if d.dd then (d, 20) else ({ d with f := max (-1) n }, 0)
def Dk.crash (d : Dk) (l : List Int) : Dk := { d.keep fun k => decide ((k : Int) ∈ l) with f := -1, dd := false }
theorem keepK_length (K : List (List UInt8)) (P : List (List UInt8 × Nat)) (pick : Nat → Bool) : ∀ k, (keepK K P pick k).length = K.length
  | 0 => rfl
  | k + 1 => by
    rw [keepK]
    split
    · split
      · rw [List.length_set, keepK_length K P pick k]
      · exact keepK_length K P pick k
    · exact keepK_length K P pick k
theorem keepK_mem {K : List (List UInt8)} {P : List (List UInt8 × Nat)} (pick : Nat → Bool) (hK : ∀ s ∈ K, s.length = 128) (hP : ∀ p ∈ P, p.1.length = 128) : ∀ k, ∀ s ∈ keepK K P pick k, s.length = 128
  | 0 => hK
  | k + 1 => by
    rw [keepK]
    split
    · rename_i p hp
      split
      · intro s hs
        rcases List.mem_or_eq_of_mem_set hs with h | rfl
        · exact keepK_mem pick hK hP k s h
        · exact hP p (List.mem_of_getElem? hp)
      · exact keepK_mem pick hK hP k
    · exact keepK_mem pick hK hP k
theorem full_length {s : List UInt8} (h : s.length ≤ 128) : (full s).length = 128 := by
  unfold full; rw [List.length_append, List.length_replicate]; omega
theorem Dk.Ok.burn {d : Dk} (h : d.Ok) : d.burn.1.Ok := by
  unfold Dk.burn
  split
  · exact ⟨h.n1, h.n2, h.k, h.p, h.f1, h.f2⟩
  · split
    · exact ⟨h.n1, h.n2, h.k, h.p, by have := h.f1; simp only; omega, by have := h.f2; simp only; omega⟩
    · exact h
theorem Dk.burn_K (d : Dk) : d.burn.1.K = d.K := by unfold Dk.burn; split; rfl; split <;> rfl
theorem Dk.burn_P (d : Dk) : d.burn.1.P = d.P := by unfold Dk.burn; split; rfl; split <;> rfl
theorem Dk.within_0 {d : Dk} {i : Int} (h : d.within i = 0) : d.dd = false ∧ 0 ≤ i ∧ i < d.K.length := by
  unfold Dk.within at h
  split at h
  · cases h
  · split at h
    · cases h
    · rename_i h1 h2
      exact ⟨by simpa using h1, by omega, by omega⟩
theorem Dk.Ok.write {d : Dk} (h : d.Ok) (i : Int) (s : List UInt8) : (d.write i s).1.Ok := by
  unfold Dk.write
  split
  · exact h
  · rename_i hw
    split
    · exact h
    · rename_i hs
      split
      · exact h.burn
      · have hb := h.burn
        have hw' := Dk.within_0 (Decidable.not_not.1 hw)
        refine ⟨hb.n1, hb.n2, hb.k, fun p hp => ?_, hb.f1, hb.f2⟩
        rcases List.mem_append.1 hp with hp | hp
        · exact hb.p p hp
        · rw [List.mem_singleton] at hp
          subst hp
          exact ⟨full_length (by omega), by simp only [Dk.burn_K]; omega⟩
theorem Dk.Ok.keep {d : Dk} (h : d.Ok) (pick : Nat → Bool) : (d.keep pick).Ok := by
  unfold Dk.keep
  refine ⟨by rw [keepK_length]; exact h.n1, by rw [keepK_length]; exact h.n2, keepK_mem pick h.k (fun p hp => (h.p p hp).1) _, fun p hp => (by cases hp), h.f1, h.f2⟩
theorem Dk.Ok.flush {d : Dk} (h : d.Ok) : d.flush.1.Ok := by
  unfold Dk.flush
  split
  · exact h
  · split
    · exact h.burn
    · exact h.burn.keep _
theorem Dk.Ok.arm {d : Dk} (h : d.Ok) {n : Int} (hn : n < 9223372036854775808) : (d.arm n).1.Ok := by
  unfold Dk.arm
  split
  · exact h
  · exact ⟨h.n1, h.n2, h.k, h.p, by simp only; omega, by simp only; omega⟩
theorem Dk.Ok.crash {d : Dk} (h : d.Ok) (l : List Int) : (d.crash l).Ok := by
  have := h.keep fun k => decide ((k : Int) ∈ l)
  exact ⟨this.n1, this.n2, this.k, this.p, by simp [Dk.crash], by simp [Dk.crash]⟩
end Go.Amb
namespace Go.Proofs.Ytmnoldikimcafaa
set_option maxRecDepth 100000
open Go.RowKit Go.Amb
set_option linter.unusedVariables false
/-- A disk at block D; F: the blocks that it has. -/
structure DiskAt (w : World) (D : Nat) (F : Nat → Prop) (d : Dk) : Prop where
  ok : d.Ok
  ex : ∃ g ck pv, w.heap[D]? = some (.cells #[.slice (some ⟨g, 0, none⟩) d.K.length ck, pv, .int .i64 d.f, .bool d.dd] 48 (0, 0)) ∧
    w.ownsRow 0 74 128 (.slice (some ⟨g, 0, none⟩) d.K.length ck) d.K.length (d.K.map bc).flatten ∧ w.ownsRow 0 77 129 pv d.P.length (d.P.map pc).flatten ∧
    g ≠ D ∧ ¬ At pv D ∧ ¬ At pv g ∧ (∀ k, F k ↔ k = D ∨ k = g ∨ At pv k)
theorem DiskAt.upd {S : Nat → Prop} {w w' : World} {D : Nat} {F : Nat → Prop} {d : Dk} (h : DiskAt w D F d) (hu : Upd S w w') (hS : ∀ k, F k → ¬ S k) : DiskAt w' D F d := by
  obtain ⟨g, ck, pv, hX, hK, hP, h1, h2, h3, hF⟩ := h.ex
  exact ⟨h.ok, g, ck, pv, hu.heap hX (hS _ ((hF _).2 (.inl rfl))), hu.owns hK (fun k hk => hS k ((hF k).2 (.inr (.inl (by simpa [At, Value.ownBlock, eq_comm] using hk))))), hu.owns hP (fun k hk => hS k ((hF k).2 (.inr (.inr hk)))), h1, h2, h3, hF⟩
theorem DiskAt.non {w w' : World} {D : Nat} {F : Nat → Prop} {d : Dk} (h : DiskAt w D F d) (hu : Upd Non w w') : DiskAt w' D F d := h.upd hu fun _ _ h => h
theorem DiskAt.lt {w : World} {D : Nat} {F : Nat → Prop} {d : Dk} (h : DiskAt w D F d) : ∀ k, F k → k < w.heap.size := by
  obtain ⟨g, ck, pv, hX, hK, hP, h1, h2, h3, hF⟩ := h.ex
  intro k hk
  rcases (hF k).1 hk with rfl | rfl | hk
  · exact heap_lt hX
  · exact own_lt hK rfl
  · exact own_lt hP hk
theorem DiskAt.dF {w : World} {D : Nat} {F : Nat → Prop} {d : Dk} (h : DiskAt w D F d) : F D := by
  obtain ⟨g, ck, pv, hX, hK, hP, h1, h2, h3, hF⟩ := h.ex
  exact (hF D).2 (.inl rfl)
/-- What a step on a disk leaves: it answers v, the disk is d' then; only the disk's blocks were written, and new ones may be the disk's. -/
def Stepped (w : World) (D : Nat) (F : Nat → Prop) (d' : Dk) (v : Value) : Ending → World → Prop := fun en w' =>
  en = .returned v ∧ ∃ F', DiskAt w' D F' d' ∧ Upd F w w' ∧ ∀ k, F' k → F k ∨ w.heap.size ≤ k
end Go.Proofs.Ytmnoldikimcafaa
